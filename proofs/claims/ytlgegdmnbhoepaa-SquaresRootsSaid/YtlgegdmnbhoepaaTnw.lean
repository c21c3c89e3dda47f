/- squares.climb, squares.Root and the reference's Root walked. -/
import Derived.Test.YtlgegdmnbhoepaaTns
import Derived.Test.YtlgegdmnbhoepaaIs
import Derived.Test.YtlgegdmnbhoepaaRegS
import Derived.Test.YtlgegdmnbhoepaaHelp
set_option linter.unusedVariables false
set_option linter.unusedSimpArgs false
namespace Go.Proofs.Ytlgegdmnbhoepaa
open Go.RowKit
set_option maxRecDepth 100000 in
set_option maxHeartbeats 4000000 in
theorem squares_climb (a p : Nat) (w : World) (hp : Lw.Prime p) (ho : p % 2 = 1) (hp20 : p ≤ 1048576) (a1 : 1 ≤ a) (a2 : a < p) (ja : Lw.gs a p = 1) :
    Calls Try.prog 72 #[.int .i64 (a : Int), .int .i64 (p : Int)] w fun e w' => (∃ x : Int, e = .returned (.int .i64 x) ∧ 0 ≤ x ∧ x < p ∧ (p : Int) ∣ x * x - a) ∧ Below w.heap.size w w' := by
  have hp2 := hp.1
  obtain ⟨z, z1, z2, z3, z4⟩ := Lw.ex_nonsq hp ho
  have hap : ¬ p ∣ a := fun h => by have := Nat.le_of_dvd (by omega) h; omega
  have hzp : ¬ p ∣ z := fun h => by have := Nat.le_of_dvd (by omega) h; omega
  have jz : Lw.gs z p = -1 := by
    have := hp.coprime hzp
    unfold Lw.jac at z3
    rw [if_pos (by rw [Nat.gcd_comm, this]; rfl)] at z3
    exact z3
  have START := Lib.hid (fun q s (hs : p - 1 = 2 ^ s * q) (hq : q % 2 = 1) => Lw.tn_start hp ho hp20 hs hq hap ja hzp jz)
  have UN := Lib.hid (fun t u i (h : Lw.TnU p t i u) (hn : ¬ u = 1) => Lw.tnU_next hp2 h hn)
  have UL := Lib.hid (fun a c x t u s i (hI : Lw.TnI p a s c x t) (h : Lw.TnU p t i u) => Lw.tnU_lt hp2 hI h)
  have BN := Lib.hid (fun c b j (h : Lw.TnB p c j b) => Lw.tnB_next hp2 h)
  have RN := Lib.hid (fun a c x t b s i (hI : Lw.TnI p a s c x t) (ht1 : ¬ t = 1) (hU : Lw.TnU p t i 1) (hB : Lw.TnB p c (s - i - 1) b) => Lw.tn_round hp hI ht1 hU hB)
  have Z3 := Lib.hid z3
  have Z4 := Lib.hid z4
  have SQ := Lib.hid (fun (y : Nat) (hy : y < p) w => (show Calls Try.prog 71 #[.int .i64 (y : Int), .int .i64 (p : Int)] w fun e w' => e = .returned (.int .i64 (Lw.jac y p)) ∧ w = w' from by
    have := squares_Of (y : Int) (p : Int) w (by omega) (by omega) (by omega)
    rwa [show ((y : Int) % (p : Int)).toNat = y by rw [Int.emod_eq_of_lt (by omega) (by omega)]; simp, Int.toNat_natCast] at this))
  have PO := Lib.hid (fun (b k : Nat) w (hk : k ≤ 1048576) => (show Calls Try.prog 62 #[.int .i64 (b : Int), .int .i64 (k : Int), .int .i64 (p : Int)] w fun e w' => e = .returned (.int .i64 ((b : Int) ^ k % p)) ∧ w = w' from by
    have := power_Of (b : Int) (k : Int) (p : Int) w (by omega) (by omega) (by omega) (by omega)
    unfold Lw.pw at this
    rwa [Int.toNat_natCast] at this))
  have SD : Hid (∀ s q : Nat, p - 1 = 2 ^ s * q → q % 2 = 0 → p - 1 = 2 ^ (s + 1) * (q / 2)) := Lib.hid fun s q h h2 => by
    rw [h, Nat.pow_succ, Nat.mul_assoc]; congr 1; omega
  have SB : Hid (∀ s q : Nat, p - 1 = 2 ^ s * q → 1 ≤ q ∧ q ≤ 1048576 ∧ s ≤ 20) := Lib.hid fun s q h => by
    have q1 : 1 ≤ q := by
      rcases Nat.eq_zero_or_pos q with h0 | h0
      · rw [h0, Nat.mul_zero] at h; omega
      · exact h0
    have h2 : 1 * q ≤ 2 ^ s * q := Nat.mul_le_mul_right _ (Nat.pow_pos (by omega))
    refine ⟨q1, by omega, ?_⟩
    rcases Nat.lt_or_ge 20 s with h3 | h3
    · exfalso
      have h4 := Nat.pow_le_pow_right (n := 2) (by omega) h3
      have h5 : 2 ^ s * 1 ≤ 2 ^ s * q := Nat.mul_le_mul_left _ q1
      rw [show (2 : Nat) ^ (20 + 1) = 2097152 from rfl] at h4
      omega
    · exact h3
  have hp0 : ¬ (p : Int) = 0 := by omega
  have hpn : ¬ p = 0 := by omega
  clear hp ho hap hzp jz z3 z4 ja
  go_enter Try.func72, Try.ntmps72
  go_wp2
  go_loop [5, 6] (fun qv sv => ∃ q s : Nat, qv = .int .i64 (q : Int) ∧ sv = .int .i64 (s : Int) ∧ Hid (p - 1 = 2 ^ s * q)) (fun qv _ => (intOf qv).toNat)
  case atStart => exact ⟨p - 1, 0, by congr 1; omega, rfl, by show p - 1 = 2 ^ 0 * (p - 1); simp⟩
  case round =>
    obtain ⟨q, s, rfl, rfl, H⟩ := hrel
    obtain ⟨q1, q2, s2⟩ := SB.out s q H.out
    by_cases hq : q % 2 = 0
    · have e1 : (q : Int).tmod 2 = 0 := by rw [Int.tmod_eq_emod_of_nonneg (by omega)]; omega
      have e2 : (q : Int).tdiv 2 = ((q / 2 : Nat) : Int) := by rw [Int.tdiv_eq_ediv_of_nonneg (by omega)]; omega
      have N := Lib.hid (SD.out s q H.out hq)
      go_wp2
      go_round
      case rel => exact ⟨q / 2, s + 1, by first | rfl | (congr 1; omega), by go_num, N⟩
      case measure => simp [intOf]; omega
    · have e1 : ((q : Int).tmod 2 == 0) = false := by rw [Int.tmod_eq_emod_of_nonneg (by omega)]; simp; omega
      have ST := Lib.hid (START.out q s H.out (by omega))
      clear H SB SD START
      go_wp2
      go_loop [7] (fun zv => ∃ y : Nat, zv = .int .i64 (y : Int) ∧ 2 ≤ y ∧ y ≤ z) (fun zv => z + 1 - (intOf zv).toNat)
      case atStart => exact ⟨2, rfl, by omega, by omega⟩
      case round =>
        obtain ⟨y, rfl, y1, y2⟩ := hrel
        have S1 := Lib.hid (fun w => SQ.out y (by omega) w)
        by_cases hy : y = z
        · have zb : (Lw.jac y p != -1) = false := by rw [hy, Z3.out]; rfl
          have P1 := Lib.hid (fun w => PO.out y q w q2)
          have P2 := PO.out a ((q + 1) / 2)
          have e3 : ((q : Int) + 1).tdiv 2 = (((q + 1) / 2 : Nat) : Int) := by rw [Int.tdiv_eq_ediv_of_nonneg (by omega)]; omega
          have P2 := Lib.hid (fun w => P2 w (by omega))
          have P3 := Lib.hid (fun w => PO.out a q w q2)
          subst hy
          have C := ST
          have bd : ∀ n : Nat, 0 ≤ (a : Int) ^ n % p ∧ (a : Int) ^ n % p < p := fun n => ⟨Int.emod_nonneg _ hp0, Int.emod_lt_of_pos _ (by omega)⟩
          have bz : 0 ≤ (y : Int) ^ q % p ∧ (y : Int) ^ q % p < p := ⟨Int.emod_nonneg _ hp0, Int.emod_lt_of_pos _ (by omega)⟩
          generalize Lw.jac y p = J at *
          generalize (y : Int) ^ q % p = c at *
          generalize (a : Int) ^ ((q + 1) / 2) % p = x at *
          generalize (a : Int) ^ q % p = t at *
          clear ST bd Z3 Z4 SQ PO
          go_wp2_with fail
          refine (S1.out _).mono ?_
          rintro e w1 ⟨rfl, rfl⟩
          go_wp2_with fail
          refine (P1.out _).mono ?_
          rintro e w1 ⟨rfl, rfl⟩
          go_wp2_with fail
          refine (P2.out _).mono ?_
          rintro e w1 ⟨rfl, rfl⟩
          go_wp2_with fail
          refine (P3.out _).mono ?_
          rintro e w1 ⟨rfl, rfl⟩
          go_wp2_with fail
          clear S1 P1 P2 P3 bz
          go_loopw [6, 8, 9, 10] (fun sv cv xv tv wr => ∃ (s : Nat) (c x t : Int), sv = .int .i64 (s : Int) ∧ cv = .int .i64 c ∧ xv = .int .i64 x ∧ tv = .int .i64 t ∧ Hid (Lw.TnI p (a : Int) s c x t) ∧ Below w.heap.size w wr) (fun sv _ _ _ _ => (intOf sv).toNat)
          case atStart => exact ⟨s, c, x, t, rfl, rfl, rfl, rfl, C, Below.refl _ _⟩
          case round =>
            clear C s2 e1 zb e3
            obtain ⟨s, c, x, t, rfl, rfl, rfl, rfl, HI, hB⟩ := hrel
            obtain ⟨s1, s2, c0, c1, x0, x1, t0, t1, hx, _, _⟩ := HI.out
            by_cases ht : t = 1
            · have zt : (t != 1) = false := by simpa using ht
              have HX := Lib.hid hx
              have HT := Lib.hid ht
              clear hx ht HI
              go_wp2_with fail
              go_ret
              exact ⟨⟨x, rfl, x0, x1, by have := HX.out; rw [HT.out, Int.mul_one] at this; exact this⟩, hB⟩
            · have zt : (t != 1) = true := by simpa using ht
              have HT := Lib.hid ht
              clear hx ht
              obtain ⟨W0, hW0⟩ : ∃ W0, W0 = wr := ⟨_, rfl⟩
              subst hW0
              go_wp2_with fail
              go_loopw [11, 12] (fun iv uv wr => ∃ (i : Nat) (u : Int), iv = .int .i64 (i : Int) ∧ uv = .int .i64 u ∧ Hid (Lw.TnU p t i u) ∧ wr = W0) (fun iv _ _ => 21 - (intOf iv).toNat)
              case atStart => exact ⟨0, t, rfl, rfl, Lw.tnU_start t0 t1, by first | rfl | trivial⟩
              case round =>
                obtain ⟨i, u, rfl, rfl, HU, rfl⟩ := hrel
                obtain ⟨i1, i2⟩ := UL.out _ _ _ _ _ _ _ HI.out HU.out
                obtain ⟨⟨u0, u1⟩, _⟩ := HU.out
                by_cases hu : u = 1
                · have zu : (u != 1) = false := by simpa using hu
                  subst hu
                  clear UN
                  have si : (s : Int) - (i : Int) - 1 = ((s - i - 1 : Nat) : Int) := by omega
                  obtain ⟨m, hm⟩ : ∃ m, s - i - 1 = m := ⟨_, rfl⟩
                  rw [hm] at si
                  have sm : s = m + i + 1 := by omega
                  have si2 : IntKind.i64.wrap ((s : Int) - (i : Int)) = (s : Int) - (i : Int) := by rw [IntKind.wrap_i64]; omega
                  have si3 : IntKind.i64.wrap ((s : Int) - (i : Int) - 1) = (m : Int) := by rw [IntKind.wrap_i64]; omega
                  have HM := Lib.hid hm
                  clear hm si i2
                  have RND := Lib.hid (fun b (hB : Lw.TnB p c m b) => RN.out _ _ _ _ b _ i HI.out HT.out HU.out (by rw [HM.out]; exact hB))
                  go_wp2_with fail
                  obtain ⟨W1, hW1⟩ : ∃ W1, W1 = wr := ⟨_, rfl⟩
                  subst hW1
                  go_loopw [13, 60] (fun bv jv wr => ∃ (j : Nat) (b : Int), jv = .int .i64 (j : Int) ∧ j ≤ m ∧ bv = .int .i64 b ∧ Hid (Lw.TnB p c j b) ∧ wr = W1) (fun _ jv _ => m - (intOf jv).toNat)
                  case atStart => exact ⟨0, c, rfl, by omega, rfl, Lw.tnB_start c0 c1, by first | rfl | trivial⟩
                  case round =>
                    obtain ⟨j, b, rfl, hj, rfl, HB, rfl⟩ := hrel
                    obtain ⟨⟨b0, b1⟩, _⟩ := HB.out
                    obtain ⟨m0, m1⟩ := Lw.mul_bd' b b 1048576 b0 (by omega) b0 (by omega)
                    have f2 : IntKind.i64.wrap (b * b) = b * b := by rw [IntKind.wrap_i64]; omega
                    have f3 : (b * b).tmod p = b * b % p := Int.tmod_eq_emod_of_nonneg m0
                    by_cases hjm : j < m
                    · have hjm' : (j : Int) < (m : Int) := by omega
                      have N := Lib.hid (BN.out _ _ _ HB.out)
                      clear m0 m1 BN RN RND UL
                      go_wp2_with fail
                      go_roundw
                      case rel => exact ⟨j + 1, _, by go_num, by omega, rfl, N, by first | rfl | trivial⟩
                      case measure => simp [intOf]; omega
                    · have hjm2 : j = m := by omega
                      subst hjm2
                      have N := Lib.hid (RND.out b HB.out)
                      have i4 := N.out.1
                      have i5 := N.out.2.1
                      have q0 := Int.emod_nonneg (b * b) hp0
                      have q1 := Int.emod_lt_of_pos (b * b) (show 0 < (p : Int) by omega)
                      generalize b * b % (p : Int) = cc at *
                      obtain ⟨m2, m3⟩ := Lw.mul_bd' x b 1048576 x0 (by omega) b0 (by omega)
                      obtain ⟨m4, m5⟩ := Lw.mul_bd' t cc 1048576 t0 (by omega) q0 (by omega)
                      have f4 : IntKind.i64.wrap (x * b) = x * b := by rw [IntKind.wrap_i64]; omega
                      have f5 : (x * b).tmod p = x * b % p := Int.tmod_eq_emod_of_nonneg m2
                      have f6 : IntKind.i64.wrap (t * cc) = t * cc := by rw [IntKind.wrap_i64]; omega
                      have f7 : (t * cc).tmod p = t * cc % p := Int.tmod_eq_emod_of_nonneg m4
                      clear m0 m1 m2 m3 m4 m5 BN RN RND UL HB HI HT HU HM
                      go_wp2_with fail
                      refine wp_region_held_drew (S := Lw.Sm wr) (by kernel_rfl) (Lw.sm_drew wr) (fun hHeld => ?_)
                      (refine Lw.take1 (i := 0) (v := ?_) rfl (by kernel_rfl) (by kernel_rfl) (by kernel_rfl) (fun _ _ _ h => h) (Or.inl ⟨by rfl, ?_⟩) (by assumption) ?_; rotate_left 1; (focus (intro wS hSw; obtain ⟨hS1, hS2, hS3, hS4⟩ := hSw; go_simp <;> with_reducible rfl)); (try simp only [Act.put, List.setIfInBounds_toArray, List.set_cons_zero, List.set_cons_succ]))
                      (refine Lw.take1 (i := 1) (v := ?_) rfl (by kernel_rfl) (by kernel_rfl) (by kernel_rfl) (fun _ _ _ h => h) (Or.inl ⟨by rfl, ?_⟩) (by assumption) ?_; rotate_left 1; (focus (intro wS hSw; obtain ⟨hS1, hS2, hS3, hS4⟩ := hSw; go_simp <;> with_reducible rfl)); (try simp only [Act.put, List.setIfInBounds_toArray, List.set_cons_zero, List.set_cons_succ]))
                      (refine Lw.take1 (i := 2) (v := ?_) rfl (by kernel_rfl) (by kernel_rfl) (by kernel_rfl) (fun _ _ _ h => h) (Or.inl ⟨by rfl, ?_⟩) (by assumption) ?_; rotate_left 1; (focus (intro wS hSw; obtain ⟨hS1, hS2, hS3, hS4⟩ := hSw; go_simp <;> with_reducible rfl)); (try simp only [Act.put, List.setIfInBounds_toArray, List.set_cons_zero, List.set_cons_succ]))
                      (refine Lw.take1 (i := 3) (v := ?_) rfl (by kernel_rfl) (by kernel_rfl) (by kernel_rfl) (fun _ _ _ h => h) (Or.inl ⟨by rfl, ?_⟩) (by assumption) ?_; rotate_left 1; (focus (intro wS hSw; obtain ⟨hS1, hS2, hS3, hS4⟩ := hSw; go_simp <;> with_reducible rfl)); (try simp only [Act.put, List.setIfInBounds_toArray, List.set_cons_zero, List.set_cons_succ]))
                      (refine Lw.take1 (i := 4) (v := ?_) rfl (by kernel_rfl) (by kernel_rfl) (by kernel_rfl) (fun _ _ _ h => h) (Or.inl ⟨by rfl, ?_⟩) (by assumption) ?_; rotate_left 1; (focus (intro wS hSw; obtain ⟨hS1, hS2, hS3, hS4⟩ := hSw; go_simp <;> with_reducible rfl)); (try simp only [Act.put, List.setIfInBounds_toArray, List.set_cons_zero, List.set_cons_succ]))
                      (refine Lw.take1 (i := 5) (v := ?_) rfl (by kernel_rfl) (by kernel_rfl) (by kernel_rfl) (fun _ _ _ h => h) (Or.inl ⟨by rfl, ?_⟩) (by assumption) ?_; rotate_left 1; (focus (intro wS hSw; obtain ⟨hS1, hS2, hS3, hS4⟩ := hSw; go_simp <;> with_reducible rfl)); (try simp only [Act.put, List.setIfInBounds_toArray, List.set_cons_zero, List.set_cons_succ]))
                      (refine Lw.take1 (i := 6) (v := ?_) rfl (by kernel_rfl) (by kernel_rfl) (by kernel_rfl) (fun _ _ _ h => h) (Or.inl ⟨by rfl, ?_⟩) (by assumption) ?_; rotate_left 1; (focus (intro wS hSw; obtain ⟨hS1, hS2, hS3, hS4⟩ := hSw; go_simp <;> with_reducible rfl)); (try simp only [Act.put, List.setIfInBounds_toArray, List.set_cons_zero, List.set_cons_succ]))
                      (refine Lw.take1 (i := 7) (v := ?_) rfl (by kernel_rfl) (by kernel_rfl) (by kernel_rfl) (fun _ _ _ h => h) (Or.inl ⟨by rfl, ?_⟩) (by assumption) ?_; rotate_left 1; (focus (intro wS hSw; obtain ⟨hS1, hS2, hS3, hS4⟩ := hSw; go_simp <;> with_reducible rfl)); (try simp only [Act.put, List.setIfInBounds_toArray, List.set_cons_zero, List.set_cons_succ]))
                      refine wpAnyH_done (by kernel_rfl) ?_ _
                      have hS := Lw.sm_drew wr
                      go_wp2_with fail
                      refine wp_region_held_drew (S := Lw.Sm wr) (by kernel_rfl) (Lw.sm_drew' hS) (fun hHeld => ?_)
                      (refine Lw.take1 (i := 0) (v := ?_) rfl (by kernel_rfl) (by kernel_rfl) (by kernel_rfl) (fun _ _ _ h => h) (Or.inl ⟨by rfl, ?_⟩) (by assumption) ?_; rotate_left 1; (focus (intro wS hSw; obtain ⟨hS1, hS2, hS3, hS4⟩ := hSw; go_simp <;> with_reducible rfl)); (try simp only [Act.put, List.setIfInBounds_toArray, List.set_cons_zero, List.set_cons_succ]))
                      (refine Lw.take1 (i := 1) (v := ?_) rfl (by kernel_rfl) (by kernel_rfl) (by kernel_rfl) (fun _ _ _ h => h) (Or.inl ⟨by rfl, ?_⟩) (by assumption) ?_; rotate_left 1; (focus (intro wS hSw; obtain ⟨hS1, hS2, hS3, hS4⟩ := hSw; go_simp <;> with_reducible rfl)); (try simp only [Act.put, List.setIfInBounds_toArray, List.set_cons_zero, List.set_cons_succ]))
                      (refine Lw.take1 (i := 2) (v := ?_) rfl (by kernel_rfl) (by kernel_rfl) (by kernel_rfl) (fun _ _ _ h => h) (Or.inl ⟨by rfl, ?_⟩) (by assumption) ?_; rotate_left 1; (focus (intro wS hSw; obtain ⟨hS1, hS2, hS3, hS4⟩ := hSw; go_simp <;> with_reducible rfl)); (try simp only [Act.put, List.setIfInBounds_toArray, List.set_cons_zero, List.set_cons_succ]))
                      (refine Lw.take1 (i := 3) (v := ?_) rfl (by kernel_rfl) (by kernel_rfl) (by kernel_rfl) (fun _ _ _ h => h) (Or.inl ⟨by rfl, ?_⟩) (by assumption) ?_; rotate_left 1; (focus (intro wS hSw; obtain ⟨hS1, hS2, hS3, hS4⟩ := hSw; go_simp <;> with_reducible rfl)); (try simp only [Act.put, List.setIfInBounds_toArray, List.set_cons_zero, List.set_cons_succ]))
                      (refine Lw.take1 (i := 4) (v := ?_) rfl (by kernel_rfl) (by kernel_rfl) (by kernel_rfl) (fun _ _ _ h => h) (Or.inl ⟨by rfl, ?_⟩) (by assumption) ?_; rotate_left 1; (focus (intro wS hSw; obtain ⟨hS1, hS2, hS3, hS4⟩ := hSw; go_simp <;> with_reducible rfl)); (try simp only [Act.put, List.setIfInBounds_toArray, List.set_cons_zero, List.set_cons_succ]))
                      (refine Lw.take1 (i := 5) (v := ?_) rfl (by kernel_rfl) (by kernel_rfl) (by kernel_rfl) (fun _ _ _ h => h) (Or.inl ⟨by rfl, ?_⟩) (by assumption) ?_; rotate_left 1; (focus (intro wS hSw; obtain ⟨hS1, hS2, hS3, hS4⟩ := hSw; go_simp <;> with_reducible rfl)); (try simp only [Act.put, List.setIfInBounds_toArray, List.set_cons_zero, List.set_cons_succ]))
                      (refine Lw.take1 (i := 6) (v := ?_) rfl (by kernel_rfl) (by kernel_rfl) (by kernel_rfl) (fun _ _ _ h => h) (Or.inl ⟨by rfl, ?_⟩) (by assumption) ?_; rotate_left 1; (focus (intro wS hSw; obtain ⟨hS1, hS2, hS3, hS4⟩ := hSw; go_simp <;> with_reducible rfl)); (try simp only [Act.put, List.setIfInBounds_toArray, List.set_cons_zero, List.set_cons_succ]))
                      (refine Lw.take1 (i := 7) (v := ?_) rfl (by kernel_rfl) (by kernel_rfl) (by kernel_rfl) (fun _ _ _ h => h) (Or.inl ⟨by rfl, ?_⟩) (by assumption) ?_; rotate_left 1; (focus (intro wS hSw; obtain ⟨hS1, hS2, hS3, hS4⟩ := hSw; go_simp <;> with_reducible rfl)); (try simp only [Act.put, List.setIfInBounds_toArray, List.set_cons_zero, List.set_cons_succ]))
                      (refine Lw.take1 (i := 8) (v := ?_) rfl (by kernel_rfl) (by kernel_rfl) (by kernel_rfl) (fun _ _ _ h => h) (Or.inl ⟨by rfl, ?_⟩) (by assumption) ?_; rotate_left 1; (focus (intro wS hSw; obtain ⟨hS1, hS2, hS3, hS4⟩ := hSw; go_simp <;> with_reducible rfl)); (try simp only [Act.put, List.setIfInBounds_toArray, List.set_cons_zero, List.set_cons_succ]))
                      (refine Lw.take1 (i := 9) (v := ?_) rfl (by kernel_rfl) (by kernel_rfl) (by kernel_rfl) (fun _ _ _ h => h) (Or.inl ⟨by rfl, ?_⟩) (by assumption) ?_; rotate_left 1; (focus (intro wS hSw; obtain ⟨hS1, hS2, hS3, hS4⟩ := hSw; go_simp <;> with_reducible rfl)); (try simp only [Act.put, List.setIfInBounds_toArray, List.set_cons_zero, List.set_cons_succ]))
                      (refine Lw.take1 (i := 10) (v := ?_) rfl (by kernel_rfl) (by kernel_rfl) (by kernel_rfl) (fun _ _ _ h => h) (Or.inl ⟨by rfl, ?_⟩) (by assumption) ?_; rotate_left 1; (focus (intro wS hSw; obtain ⟨hS1, hS2, hS3, hS4⟩ := hSw; go_simp <;> with_reducible rfl)); (try simp only [Act.put, List.setIfInBounds_toArray, List.set_cons_zero, List.set_cons_succ]))
                      (refine Lw.take1 (i := 11) (v := ?_) rfl (by kernel_rfl) (by kernel_rfl) (by kernel_rfl) (fun _ _ _ h => h) (Or.inl ⟨by rfl, ?_⟩) (by assumption) ?_; rotate_left 1; (focus (intro wS hSw; obtain ⟨hS1, hS2, hS3, hS4⟩ := hSw; go_simp <;> with_reducible rfl)); (try simp only [Act.put, List.setIfInBounds_toArray, List.set_cons_zero, List.set_cons_succ]))
                      refine wpAnyH_done (by kernel_rfl) ?_ _
                      go_wp2_with fail
                      go_roundw
                      case rel => exact ⟨i, _, _, _, rfl, rfl, rfl, rfl, N.out.2.2, Lw.bt hB (Lw.sm_bel (Lw.sm_drew' hS))⟩
                      case measure => simp [intOf]; omega
                · have zu : (u != 1) = true := by simpa using hu
                  have N := Lib.hid (UN.out _ _ _ HU.out hu)
                  have i3 := i2 hu
                  obtain ⟨m0, m1⟩ := Lw.mul_bd' u u 1048576 u0 (by omega) u0 (by omega)
                  have e2 : IntKind.i64.wrap (u * u) = u * u := by rw [IntKind.wrap_i64]; omega
                  have e3 : (u * u).tmod p = u * u % p := Int.tmod_eq_emod_of_nonneg m0
                  clear hu m0 m1 UN UL i2
                  go_wp2_with fail
                  go_roundw
                  case rel => exact ⟨i + 1, _, by go_num, rfl, N, by first | rfl | trivial⟩
                  case measure => simp [intOf]; omega
        · have zb : (Lw.jac y p != -1) = true := by
            have := Z4.out y y1 (by omega)
            simpa using this
          generalize Lw.jac y p = J at *
          clear Z3 Z4 SQ
          go_wp2_with (go_at_call 71; (with_reducible refine (S1.out _).mono ?_); rintro e w' ⟨rfl, rfl⟩)
          go_round
          case rel => exact ⟨y + 1, by go_num, by omega, by omega⟩
          case measure => simp [intOf]; omega
set_option maxHeartbeats 1000000 in
theorem ref_Root (a p r : Int) (w : World) (h1 : 1 ≤ p) (h2 : p ≤ 1048576) (hr : Lw.RtP a p r) :
    Calls Try.prog 30 #[.int .i64 a, .int .i64 p] w fun e w' => e = .returned (.int .i64 r) ∧ Below w.heap.size w w' := by
  have MD := Lib.hid (fun w => ref_Mod a p w (by omega) (by omega))
  have HR := Lib.hid hr
  obtain ⟨q, hq⟩ : ∃ q, a % p = q := ⟨_, rfl⟩
  rw [hq] at MD
  have HQ := Lib.hid hq
  have hp0 : ¬ p = 0 := by omega
  clear hr hq
  go_enter Try.func30, Try.ntmps30
  go_wp2
  go_loopw [5] (fun xv wr => ∃ k : Int, 0 ≤ k ∧ k ≤ p ∧ xv = .int .i64 k ∧ Hid (∀ y, 0 ≤ y → y < k → ¬ y * y % p = q) ∧ Below w.heap.size w wr) (fun xv _ => (p + 1 - intOf xv).toNat)
  case atStart => exact ⟨0, by omega, by omega, rfl, (fun y y0 y1 => by omega), Below.refl _ _⟩
  case round =>
    obtain ⟨k, k0, k1, rfl, NO, hB⟩ := hrel
    by_cases hlt : k < p
    · obtain ⟨m0, m1⟩ := Lw.mul_bd' k k 1048576 k0 (by omega) k0 (by omega)
      have f2 : IntKind.i64.wrap (k * k) = k * k := by rw [IntKind.wrap_i64]; omega
      have f3 : (k * k).tmod p = k * k % p := Int.tmod_eq_emod_of_nonneg m0
      by_cases he : k * k % p = q
      · have E : Hid (r = k) := Lib.hid (by
          refine Lw.rt_unique HR.out (.inr ⟨k0, hlt, by rw [HQ.out]; exact he, fun y y0 y1 => by rw [HQ.out]; exact NO.out y y0 y1⟩))
        have zb : (k * k % p == q) = true := by simpa using he
        clear m0 m1 he NO
        go_wp2_with fail
        refine wp_region_held_drew (S := Lw.Sm wr) (by kernel_rfl) (Lw.sm_drew wr) (fun hHeld => ?_)
        (refine Lw.take1 (i := 0) (v := ?_) rfl (by kernel_rfl) (by kernel_rfl) (by kernel_rfl) (fun _ _ _ h => h) (Or.inl ⟨by rfl, ?_⟩) (by assumption) ?_; rotate_left 1; (focus (intro wS hSw; obtain ⟨hS1, hS2, hS3, hS4⟩ := hSw; go_simp <;> with_reducible rfl)); (try simp only [Act.put, List.setIfInBounds_toArray, List.set_cons_zero, List.set_cons_succ]))
        (refine Lw.take1 (i := 1) (v := ?_) rfl (by kernel_rfl) (by kernel_rfl) (by kernel_rfl) (fun _ _ _ h => h) (Or.inl ⟨by rfl, ?_⟩) (by assumption) ?_; rotate_left 1; (focus (intro wS hSw; obtain ⟨hS1, hS2, hS3, hS4⟩ := hSw; go_simp <;> with_reducible rfl)); (try simp only [Act.put, List.setIfInBounds_toArray, List.set_cons_zero, List.set_cons_succ]))
        (refine Lw.take1 (i := 2) (v := ?_) rfl (by kernel_rfl) (by kernel_rfl) (by kernel_rfl) (fun _ _ _ h => h) (Or.inl ⟨by rfl, ?_⟩) (by assumption) ?_; rotate_left 1; (focus (intro wS hSw; obtain ⟨hS1, hS2, hS3, hS4⟩ := hSw; go_simp <;> with_reducible rfl)); (try simp only [Act.put, List.setIfInBounds_toArray, List.set_cons_zero, List.set_cons_succ]))
        (refine Lw.take1 (i := 3) (v := ?_) rfl (by kernel_rfl) (by kernel_rfl) (by kernel_rfl) (fun _ _ _ h => h) (Or.inl ⟨by rfl, ?_⟩) (by assumption) ?_; rotate_left 1; (focus (intro wS hSw; obtain ⟨hS1, hS2, hS3, hS4⟩ := hSw; go_simp <;> with_reducible rfl)); (try simp only [Act.put, List.setIfInBounds_toArray, List.set_cons_zero, List.set_cons_succ]))
        (refine Lw.take1 (i := 4) (v := ?_) rfl (by kernel_rfl) (by kernel_rfl) (by kernel_rfl) (fun _ _ _ h => h) (Or.inl ⟨by rfl, ?_⟩) (by assumption) ?_; rotate_left 1; (focus (intro wS hSw; obtain ⟨hS1, hS2, hS3, hS4⟩ := hSw; go_simp <;> with_reducible rfl)); (try simp only [Act.put, List.setIfInBounds_toArray, List.set_cons_zero, List.set_cons_succ]))
        (refine Lw.take1 (i := 5) (v := ?_) rfl (by kernel_rfl) (by kernel_rfl) (by kernel_rfl) (fun _ _ _ h => h) (Or.inl ⟨by rfl, ?_⟩) (by assumption) ?_; rotate_left 1; (focus (intro wS hSw; obtain ⟨hS1, hS2, hS3, hS4⟩ := hSw; go_simp <;> with_reducible rfl)); (try simp only [Act.put, List.setIfInBounds_toArray, List.set_cons_zero, List.set_cons_succ]))
        (refine Lw.take1 (i := 6) (v := ?_) rfl (by kernel_rfl) (by kernel_rfl) (by kernel_rfl) (fun _ _ _ h => h) (Or.inl ⟨by rfl, ?_⟩) (by assumption) ?_; rotate_left 1; (focus (intro wS hSw; obtain ⟨hS1, hS2, hS3, hS4⟩ := hSw; go_simp <;> with_reducible rfl)); (try simp only [Act.put, List.setIfInBounds_toArray, List.set_cons_zero, List.set_cons_succ]))
        (refine wpAnyH_ready (rs := [7]) (by kernel_rfl) (by simp) ?_; refine Lw.cons1 (i := 7) rfl (fun K hK => ?_) AllReadyH.nil; go_simp; go_at_call 64; (with_reducible refine (MD.out _).mono ?_); rintro e w' ⟨rfl, rfl⟩; refine hK.out _ _ ?_ (fun hHeld => ?_); (focus exact Lw.sm_drew wr); clear hK K; (try simp only [Act.put, List.setIfInBounds_toArray, List.set_cons_zero, List.set_cons_succ]))
        (refine Lw.take1 (i := 8) (v := ?_) rfl (by kernel_rfl) (by kernel_rfl) (by kernel_rfl) (fun _ _ _ h => h) (Or.inl ⟨by rfl, ?_⟩) (by assumption) ?_; rotate_left 1; (focus (intro wS hSw; obtain ⟨hS1, hS2, hS3, hS4⟩ := hSw; go_simp <;> with_reducible rfl)); (try simp only [Act.put, List.setIfInBounds_toArray, List.set_cons_zero, List.set_cons_succ]))
        refine wpAnyH_done (by kernel_rfl) ?_ _
        go_wp2_with fail
        go_ret
        exact ⟨by rw [E.out]; rfl, Lw.bt hB (Lw.sm_bel (Lw.sm_drew wr))⟩
      · have N : Hid (∀ y, 0 ≤ y → y < k + 1 → ¬ y * y % p = q) := Lib.hid fun y y0 y1 => by
          by_cases e : y = k
          · subst e; exact he
          · exact NO.out y y0 (by omega)
        have zb : (k * k % p == q) = false := by simpa using he
        clear m0 m1 he NO
        go_wp2_with fail
        refine wp_region_held_drew (S := Lw.Sm wr) (by kernel_rfl) (Lw.sm_drew wr) (fun hHeld => ?_)
        (refine Lw.take1 (i := 0) (v := ?_) rfl (by kernel_rfl) (by kernel_rfl) (by kernel_rfl) (fun _ _ _ h => h) (Or.inl ⟨by rfl, ?_⟩) (by assumption) ?_; rotate_left 1; (focus (intro wS hSw; obtain ⟨hS1, hS2, hS3, hS4⟩ := hSw; go_simp <;> with_reducible rfl)); (try simp only [Act.put, List.setIfInBounds_toArray, List.set_cons_zero, List.set_cons_succ]))
        (refine Lw.take1 (i := 1) (v := ?_) rfl (by kernel_rfl) (by kernel_rfl) (by kernel_rfl) (fun _ _ _ h => h) (Or.inl ⟨by rfl, ?_⟩) (by assumption) ?_; rotate_left 1; (focus (intro wS hSw; obtain ⟨hS1, hS2, hS3, hS4⟩ := hSw; go_simp <;> with_reducible rfl)); (try simp only [Act.put, List.setIfInBounds_toArray, List.set_cons_zero, List.set_cons_succ]))
        (refine Lw.take1 (i := 2) (v := ?_) rfl (by kernel_rfl) (by kernel_rfl) (by kernel_rfl) (fun _ _ _ h => h) (Or.inl ⟨by rfl, ?_⟩) (by assumption) ?_; rotate_left 1; (focus (intro wS hSw; obtain ⟨hS1, hS2, hS3, hS4⟩ := hSw; go_simp <;> with_reducible rfl)); (try simp only [Act.put, List.setIfInBounds_toArray, List.set_cons_zero, List.set_cons_succ]))
        (refine Lw.take1 (i := 3) (v := ?_) rfl (by kernel_rfl) (by kernel_rfl) (by kernel_rfl) (fun _ _ _ h => h) (Or.inl ⟨by rfl, ?_⟩) (by assumption) ?_; rotate_left 1; (focus (intro wS hSw; obtain ⟨hS1, hS2, hS3, hS4⟩ := hSw; go_simp <;> with_reducible rfl)); (try simp only [Act.put, List.setIfInBounds_toArray, List.set_cons_zero, List.set_cons_succ]))
        (refine Lw.take1 (i := 4) (v := ?_) rfl (by kernel_rfl) (by kernel_rfl) (by kernel_rfl) (fun _ _ _ h => h) (Or.inl ⟨by rfl, ?_⟩) (by assumption) ?_; rotate_left 1; (focus (intro wS hSw; obtain ⟨hS1, hS2, hS3, hS4⟩ := hSw; go_simp <;> with_reducible rfl)); (try simp only [Act.put, List.setIfInBounds_toArray, List.set_cons_zero, List.set_cons_succ]))
        (refine Lw.take1 (i := 5) (v := ?_) rfl (by kernel_rfl) (by kernel_rfl) (by kernel_rfl) (fun _ _ _ h => h) (Or.inl ⟨by rfl, ?_⟩) (by assumption) ?_; rotate_left 1; (focus (intro wS hSw; obtain ⟨hS1, hS2, hS3, hS4⟩ := hSw; go_simp <;> with_reducible rfl)); (try simp only [Act.put, List.setIfInBounds_toArray, List.set_cons_zero, List.set_cons_succ]))
        (refine Lw.take1 (i := 6) (v := ?_) rfl (by kernel_rfl) (by kernel_rfl) (by kernel_rfl) (fun _ _ _ h => h) (Or.inl ⟨by rfl, ?_⟩) (by assumption) ?_; rotate_left 1; (focus (intro wS hSw; obtain ⟨hS1, hS2, hS3, hS4⟩ := hSw; go_simp <;> with_reducible rfl)); (try simp only [Act.put, List.setIfInBounds_toArray, List.set_cons_zero, List.set_cons_succ]))
        (refine wpAnyH_ready (rs := [7]) (by kernel_rfl) (by simp) ?_; refine Lw.cons1 (i := 7) rfl (fun K hK => ?_) AllReadyH.nil; go_simp; go_at_call 64; (with_reducible refine (MD.out _).mono ?_); rintro e w' ⟨rfl, rfl⟩; refine hK.out _ _ ?_ (fun hHeld => ?_); (focus exact Lw.sm_drew wr); clear hK K; (try simp only [Act.put, List.setIfInBounds_toArray, List.set_cons_zero, List.set_cons_succ]))
        (refine Lw.take1 (i := 8) (v := ?_) rfl (by kernel_rfl) (by kernel_rfl) (by kernel_rfl) (fun _ _ _ h => h) (Or.inl ⟨by rfl, ?_⟩) (by assumption) ?_; rotate_left 1; (focus (intro wS hSw; obtain ⟨hS1, hS2, hS3, hS4⟩ := hSw; go_simp <;> with_reducible rfl)); (try simp only [Act.put, List.setIfInBounds_toArray, List.set_cons_zero, List.set_cons_succ]))
        refine wpAnyH_done (by kernel_rfl) ?_ _
        go_wp2_with fail
        go_roundw
        case rel => exact ⟨k + 1, by omega, by omega, by go_num, N, Lw.bt hB (Lw.sm_bel (Lw.sm_drew wr))⟩
        case measure => simp [intOf]; omega
    · have E : Hid (r = -1) := Lib.hid (by
        rcases HR.out with ⟨h, _⟩ | ⟨g1, g2, g3, _⟩
        · exact h
        · exact absurd (g3.trans HQ.out) (NO.out r g1 (by omega)))
      clear NO
      go_wp2_with fail
      go_ret
      exact ⟨by rw [E.out]; rfl, hB⟩
theorem squares_far (x : Int) (w : World) :
    Calls Try.prog 69 #[.int .i64 x] w fun e w' => e = .returned (.bool (Lw.farB x)) ∧ w = w' := by
  by_cases h1 : x < -2147483648
  · have E := Lib.hid (Lw.farB_true (.inl h1))
    go_enter Try.func69, Try.ntmps69
    go_wp2
    go_ret
    exact ⟨Lw.ret_bool E.out.symm, rfl⟩
  · have E : Hid (Lw.farB x = decide (2147483648 < x)) := by unfold Lw.farB; simp [Hid, h1]
    go_enter Try.func69, Try.ntmps69
    go_wp2
    go_ret
    exact ⟨Lw.ret_bool E.out.symm, rfl⟩
theorem squares_Root_far (a p : Int) (w : World) (h : a < -2147483648 ∨ 2147483648 < a ∨ p < 1 ∨ 1048576 < p) :
    Calls Try.prog 28 #[.int .i64 a, .int .i64 p] w fun e w' => e = .returned (.tuple #[.int .i64 0, .int .i64 2]) ∧ Below w.heap.size w w' := by
  have hc : a < -2147483648 ∨ (¬ a < -2147483648 ∧ 2147483648 < a) ∨ (¬ a < -2147483648 ∧ ¬ 2147483648 < a ∧ p < 1) ∨ (¬ a < -2147483648 ∧ ¬ 2147483648 < a ∧ ¬ p < 1 ∧ 1048576 < p) := by omega
  clear h
  rcases hc with k1 | ⟨k1, k2⟩ | ⟨k1, k2, k3⟩ | ⟨k1, k2, k3, k4⟩
  all_goals
    go_enter Try.func28, Try.ntmps28
    go_wp2_with go_in
    go_ret2
    exact ⟨rfl, Below.refl _ _⟩
theorem squares_Root_arg (a p : Int) (w : World) (a1 : -2147483648 ≤ a) (a2 : a ≤ 2147483648) (h1 : 1 ≤ p) (h2 : p ≤ 1048576) (h : Lw.primeB p = false ∨ p = 2) :
    Calls Try.prog 28 #[.int .i64 a, .int .i64 p] w fun e w' => e = .returned (.tuple #[.int .i64 0, .int .i64 3]) ∧ Below w.heap.size w w' := by
  have X := Lib.hid (fun w => primes_Is p w h1 h2)
  have k1 : Lw.farB a = false := Lw.farB_false (by omega)
  cases hb : Lw.primeB p with
  | false =>
    rw [hb] at X
    clear h
    go_enter Try.func28, Try.ntmps28
    go_wp2_with (first | (go_at_call 70; (with_reducible refine (X.out _).mono ?_); rintro e w1 ⟨rfl, hb1⟩) | (go_at_call 69; refine (squares_far _ _).mono ?_; rintro e w' ⟨rfl, rfl⟩))
    go_ret2
    exact ⟨rfl, hb1⟩
  | true =>
    rw [hb] at X
    have hp2 : p = 2 := by rcases h with h | h; (rw [hb] at h; cases h); exact h
    subst hp2
    clear h
    go_enter Try.func28, Try.ntmps28
    go_wp2_with (first | (go_at_call 70; (with_reducible refine (X.out _).mono ?_); rintro e w1 ⟨rfl, hb1⟩) | (go_at_call 69; refine (squares_far _ _).mono ?_; rintro e w' ⟨rfl, rfl⟩))
    go_ret2
    exact ⟨rfl, hb1⟩
set_option maxHeartbeats 1000000 in
theorem squares_Root_ok (a : Int) (p : Nat) (w : World) (a1 : -2147483648 ≤ a) (a2 : a ≤ 2147483648) (h2 : p ≤ 1048576) (hp : Lw.Prime p) (ho : p % 2 = 1) :
    Calls Try.prog 28 #[.int .i64 a, .int .i64 (p : Int)] w fun e w' => (∃ r : Int, Lw.RtP a p r ∧ e = .returned (if r < 0 then .tuple #[.int .i64 0, .int .i64 5] else .tuple #[.int .i64 r, .int .i64 0])) ∧ Below w.heap.size w w' := by
  have hp2 := hp.1
  have X := Lib.hid (fun w => (show Calls Try.prog 70 #[.int .i64 (p : Int)] w fun e w' => e = .returned (.tuple #[.bool true, .int .i64 0]) ∧ Below w.heap.size w w' from by
    have := primes_Is (p : Int) w (by omega) (by omega)
    rwa [show Lw.primeB (p : Int) = true by unfold Lw.primeB; rw [Int.toNat_natCast]; exact decide_eq_true hp] at this))
  have MD := fun w => euclid_Mod a (p : Int) w (by omega) (by omega)
  have q0 := Int.emod_nonneg a (show (p : Int) ≠ 0 by omega)
  have q1 := Int.emod_lt_of_pos a (show 0 < (p : Int) by omega)
  obtain ⟨b, hb⟩ := Int.eq_ofNat_of_zero_le q0
  have hb : a % (p : Int) = (b : Int) := hb
  rw [hb] at MD q1
  have OF := fun w => squares_Of (b : Int) (p : Int) w (by omega) (by omega) (by omega)
  rw [show ((b : Int) % (p : Int)).toNat = b by rw [Int.emod_eq_of_lt (by omega) (by omega)]; simp, Int.toNat_natCast] at OF
  replace MD := Lib.hid MD
  have k1 : Lw.farB a = false := Lw.farB_false (by omega)
  have zp : ((p : Int) == 2) = false := by simp; omega
  have wz : ¬ (p : Int) < 1 := by omega
  have wz2 : ¬ (1048576 : Int) < (p : Int) := by omega
  by_cases h0 : b = 0
  · subst h0
    have hj : Lw.jac 0 p = 0 := by rw [Lw.jac_zero p (by omega), if_neg (by omega)]
    rw [hj] at OF
    rw [show ((0 : Nat) : Int) = 0 from rfl] at OF MD
    replace OF := Lib.hid OF
    have R := Lib.hid (Lw.rt_zero hp2 (a := a) (by rw [hb]; rfl))
    clear hp ho hb hj q0 q1
    go_enter Try.func28, Try.ntmps28
    go_wp2_with (first | (go_at_call 70; (with_reducible refine (X.out _).mono ?_); rintro e w1 ⟨rfl, hb1⟩) | (go_at_call 61; (with_reducible refine (MD.out _).mono ?_); rintro e w' ⟨rfl, rfl⟩) | (go_at_call 71; (with_reducible refine (OF.out _).mono ?_); rintro e w' ⟨rfl, rfl⟩) | (go_at_call 69; refine (squares_far _ _).mono ?_; rintro e w' ⟨rfl, rfl⟩))
    go_ret2
    exact ⟨⟨0, R.out, rfl⟩, hb1⟩
  · have hbp : ¬ p ∣ b := fun h => by have := Nat.le_of_dvd (by omega) h; omega
    have hj : Lw.jac b p = Lw.gs b p := by
      unfold Lw.jac
      have := hp.coprime hbp
      rw [if_pos (by rw [Nat.gcd_comm, this]; rfl)]
    rw [hj] at OF
    rcases Lw.gs_cases b p with hg | hg
    · have CL := Lib.hid (fun w => squares_climb b p w hp ho h2 (by omega) (by omega) hg)
      have RM := Lib.hid (fun x (x0 : 1 ≤ x) (x1 : x < (p : Int)) (h : x * x % p = a % p) => Lw.rt_min hp x0 x1 h)
      rw [hg] at OF
      replace OF := Lib.hid OF
      have HB := Lib.hid hb
      clear hp ho hb hj hbp hg q0
      go_enter Try.func28, Try.ntmps28
      go_wp2_with (first | (go_at_call 70; (with_reducible refine (X.out _).mono ?_); rintro e w1 ⟨rfl, hb1⟩) | (go_at_call 61; (with_reducible refine (MD.out _).mono ?_); rintro e w' ⟨rfl, rfl⟩) | (go_at_call 71; (with_reducible refine (OF.out _).mono ?_); rintro e w' ⟨rfl, rfl⟩) | (go_at_call 69; refine (squares_far _ _).mono ?_; rintro e w' ⟨rfl, rfl⟩))
      refine (CL.out _).mono ?_
      rintro e w2 ⟨⟨x, rfl, x0, x1, hx⟩, hb2⟩
      have x2 : 1 ≤ x := by
        by_cases e : x = 0
        · exfalso
          subst e
          obtain ⟨z, hz⟩ := hx
          have hz2 : (p : Int) ∣ (b : Int) := ⟨-z, by rw [Int.mul_neg, ← hz]; omega⟩
          have := Nat.le_of_dvd (by omega) (Int.ofNat_dvd.1 hz2)
          omega
        · omega
      have hR := RM.out x x2 x1 (by rw [HB.out]; rw [Int.emod_eq_emod_iff_emod_sub_eq_zero.2 (Int.emod_eq_zero_of_dvd hx), Int.emod_eq_of_lt (by omega) (by omega)])
      have HR := Lib.hid hR
      clear hR hx
      by_cases hxp : x ≤ (p : Int) - x
      · have HR := Lib.hid (show Lw.RtP a p x from by have := HR.out; rwa [show min x ((p : Int) - x) = x by omega] at this)
        go_wp2_with fail
        go_ret2
        exact ⟨⟨x, HR.out, by rw [if_neg (by omega)]; rfl⟩, Lw.bt hb1 hb2⟩
      · have HR := Lib.hid (show Lw.RtP a p ((p : Int) - x) from by have := HR.out; rwa [show min x ((p : Int) - x) = (p : Int) - x by omega] at this)
        go_wp2_with fail
        go_ret2
        exact ⟨⟨(p : Int) - x, HR.out, by rw [if_neg (by omega)]; rfl⟩, Lw.bt hb1 hb2⟩
    · rw [hg] at OF
      replace OF := Lib.hid OF
      have R := Lib.hid (Lw.rt_none hp ho hb h0 (by omega) hg)
      clear hp ho hb hj hbp hg q0 q1
      go_enter Try.func28, Try.ntmps28
      go_wp2_with (first | (go_at_call 70; (with_reducible refine (X.out _).mono ?_); rintro e w1 ⟨rfl, hb1⟩) | (go_at_call 61; (with_reducible refine (MD.out _).mono ?_); rintro e w' ⟨rfl, rfl⟩) | (go_at_call 71; (with_reducible refine (OF.out _).mono ?_); rintro e w' ⟨rfl, rfl⟩) | (go_at_call 69; refine (squares_far _ _).mono ?_; rintro e w' ⟨rfl, rfl⟩))
      go_ret2
      exact ⟨⟨-1, R.out, rfl⟩, hb1⟩
end Go.Proofs.Ytlgegdmnbhoepaa
