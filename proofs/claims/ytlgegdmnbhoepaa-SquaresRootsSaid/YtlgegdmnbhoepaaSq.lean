/- Contract of squares.Of: Jacobi's symbol by reciprocity. -/
import Derived.Test.YtlgegdmnbhoepaaPow
import Derived.Test.YtlgegdmnbhoepaaJac
set_option linter.unusedVariables false
set_option linter.unusedSimpArgs false
namespace Go.Proofs.Ytlgegdmnbhoepaa
open Go.RowKit
set_option maxHeartbeats 2000000 in
theorem squares_Of (a n : Int) (w : World) (h1 : 1 ≤ n) (h2 : n ≤ 1048576) (ho : n % 2 = 1) :
    Calls Try.prog 71 #[.int .i64 a, .int .i64 n] w fun e w' => e = .returned (.int .i64 (Lw.jac (a % n).toNat n.toNat)) ∧ w = w' := by
  obtain ⟨m, rfl⟩ := Int.eq_ofNat_of_zero_le (by omega : 0 ≤ n)
  obtain ⟨s1, s2⟩ := Lw.emod_bd a (m : Int) (by omega)
  have hm : Hid (m % 2 = 1) := by show _ = _; omega
  clear ho
  go_enter Try.func71, Try.ntmps71
  go_wp2_with (go_at_call 61; refine (euclid_Mod _ _ _ (by omega) (by omega)).mono ?_; rintro e w' ⟨rfl, rfl⟩)
  obtain ⟨b, hb⟩ : ∃ b : Nat, a % (m : Int) = (b : Int) := ⟨(a % (m : Int)).toNat, by omega⟩
  rw [hb]
  have E : Hid (Lw.jac (b : Int).toNat (m : Int).toNat = Lw.jac b m) := rfl
  obtain ⟨J, hJ⟩ : ∃ J, Lw.jac b m = J := ⟨_, rfl⟩
  have HJ := Lib.hid hJ
  rw [hb] at s1 s2
  have HB := Lib.hid hb
  clear hJ hb
  go_loop [0, 5, 1] (fun x sg y => ∃ (c d : Nat) (z : Int), x = .int .i64 (c : Int) ∧ sg = .int .i64 z ∧ y = .int .i64 (d : Int) ∧ c ≤ 1048576 ∧ 1 ≤ d ∧ d ≤ 1048576 ∧ -1 ≤ z ∧ z ≤ 1 ∧ Hid (d % 2 = 1 ∧ z * Lw.jac c d = J)) (fun x _ _ => (intOf x).toNat)
  case atStart => exact ⟨b, m, 1, rfl, rfl, rfl, by omega, by omega, by omega, by omega, by omega, hm.out, by rw [Int.one_mul]; exact HJ.out⟩
  case round =>
    obtain ⟨c, d, z, rfl, rfl, rfl, c1, d1, d2, z1, z2, H⟩ := hrel
    by_cases hc : c = 0
    · subst hc
      have hz : Hid (z * (if d = 1 then 1 else 0) = J) := by
        have := H.out.2
        rwa [Lw.jac_zero d (by omega)] at this
      clear H
      by_cases hd : d = 1
      · subst hd
        have T : Hid (z = Lw.jac (b : Int).toNat (m : Int).toNat) := by
          have := hz.out; simp at this; rw [this, E.out]; exact HJ.out.symm
        clear hz
        go_wp2
        go_ret
        rw [← HB.out] at T
        exact ⟨Lw.ret_int (by rw [HB.out]; rw [HB.out] at T; exact T.out), rfl⟩
      · have hd1 : ((d : Int) == 1) = false := by simp; omega
        have hd2 : ((d : Int) != 1) = true := by simp; omega
        have T : Hid (0 = Lw.jac (b : Int).toNat (m : Int).toNat) := by
          have := hz.out; simp [hd] at this; rw [this, E.out]; exact HJ.out.symm
        clear hz
        go_wp2
        go_ret
        exact ⟨Lw.ret_int (by rw [HB.out]; exact T.out), rfl⟩
    · have hc1 : ((c : Int) == 0) = false := by simp; omega
      have hc2 : ((c : Int) != 0) = true := by simp; omega
      have hc3 : ¬ (c : Int) = 0 := by omega
      go_wp2
      go_loop [0, 5] (fun x sg => ∃ (e : Nat) (y : Int), x = .int .i64 (e : Int) ∧ sg = .int .i64 y ∧ 1 ≤ e ∧ e ≤ c ∧ -1 ≤ y ∧ y ≤ 1 ∧ Hid (y * Lw.jac e d = J)) (fun x _ => (intOf x).toNat)
      case atStart => exact ⟨c, z, rfl, rfl, by omega, by omega, z1, z2, H.out.2⟩
      case round =>
        obtain ⟨e, y, rfl, rfl, e1, e2, y1, y2, G⟩ := hrel
        by_cases he : e % 2 = 0
        · have he1 : ((e : Int) % 2 == 0) = true := by simp; omega
          have hd8 : (((d : Int) % 8 == 3) = true ∧ (d % 8 = 3 ∨ d % 8 = 5)) ∨ (((d : Int) % 8 == 3) = false ∧ ((d : Int) % 8 == 5) = true ∧ (d % 8 = 3 ∨ d % 8 = 5)) ∨ (((d : Int) % 8 == 3) = false ∧ ((d : Int) % 8 == 5) = false ∧ ¬ (d % 8 = 3 ∨ d % 8 = 5)) := by
            simp only [beq_iff_eq, beq_eq_false_iff_ne, ne_eq]; omega
          have N := Lib.hid (Lw.jac_even (a := e) H.out.1 he)
          have e3 : 1 ≤ e / 2 := by omega
          rcases hd8 with ⟨g1, g2⟩ | ⟨g1, g2, g3⟩ | ⟨g1, g2, g3⟩
          · have M : Hid (-y * Lw.jac (e / 2) d = J) := by
              have h3 := G.out; rw [N.out, if_pos g2] at h3
              show _ = _; rw [← h3]; grind
            clear N G he g2
            go_wp2
            go_round
            case rel => exact ⟨e / 2, -y, by go_num, rfl, by omega, by omega, by omega, by omega, M⟩
            case measure => simp [intOf]; omega
          · have M : Hid (-y * Lw.jac (e / 2) d = J) := by
              have h3 := G.out; rw [N.out, if_pos g3] at h3
              show _ = _; rw [← h3]; grind
            clear N G he g3
            go_wp2
            go_round
            case rel => exact ⟨e / 2, -y, by go_num, rfl, by omega, by omega, by omega, by omega, M⟩
            case measure => simp [intOf]; omega
          · have M : Hid (y * Lw.jac (e / 2) d = J) := by
              have h3 := G.out; rw [N.out, if_neg g3, Int.mul_one] at h3
              exact h3
            clear N G he g3
            go_wp2
            go_round
            case rel => exact ⟨e / 2, y, by go_num, rfl, by omega, by omega, by omega, by omega, M⟩
            case measure => simp [intOf]; omega
        · have he1 : ((e : Int) % 2 == 0) = false := by simp; omega
          have hq : (((e : Int) % 4 == 3) = true ∧ ((d : Int) % 4 == 3) = true ∧ (e % 4 = 3 ∧ d % 4 = 3)) ∨ (((e : Int) % 4 == 3) = true ∧ ((d : Int) % 4 == 3) = false ∧ ¬ (e % 4 = 3 ∧ d % 4 = 3)) ∨ (((e : Int) % 4 == 3) = false ∧ ¬ (e % 4 = 3 ∧ d % 4 = 3)) := by
            simp only [beq_iff_eq, beq_eq_false_iff_ne, ne_eq]; omega
          have N := Lib.hid (Lw.jac_odd (a := e) H.out.1 (by omega))
          have hr : d % e < e := Nat.mod_lt _ (by omega)
          have he2 : Hid (e % 2 = 1) := by show _ = _; omega
          have he3 : ¬ (e : Int) = 0 := by omega
          rcases hq with ⟨g1, g2, g3⟩ | ⟨g1, g2, g3⟩ | ⟨g1, g3⟩
          · have M : Hid (-y * Lw.jac (d % e) e = J) := by
              have h3 := G.out; rw [N.out, if_pos g3] at h3
              show _ = _; rw [← h3]; grind
            clear N G he g3
            go_wp2
            go_round
            case rel => exact ⟨d % e, e, -y, by go_num, rfl, rfl, by omega, by omega, by omega, by omega, by omega, he2.out, M.out⟩
            case measure => simp [intOf]; omega
          · have M : Hid (y * Lw.jac (d % e) e = J) := by
              have h3 := G.out; rw [N.out, if_neg g3, Int.mul_one] at h3
              exact h3
            clear N G he g3
            go_wp2
            go_round
            case rel => exact ⟨d % e, e, y, by go_num, rfl, rfl, by omega, by omega, by omega, by omega, by omega, he2.out, M.out⟩
            case measure => simp [intOf]; omega
          · have M : Hid (y * Lw.jac (d % e) e = J) := by
              have h3 := G.out; rw [N.out, if_neg g3, Int.mul_one] at h3
              exact h3
            clear N G he g3
            go_wp2
            go_round
            case rel => exact ⟨d % e, e, y, by go_num, rfl, rfl, by omega, by omega, by omega, by omega, by omega, he2.out, M.out⟩
            case measure => simp [intOf]; omega
end Go.Proofs.Ytlgegdmnbhoepaa
