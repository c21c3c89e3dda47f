/- Contracts of package euclid: step, abs, far, Gcd, Inverse; and of the reference's Gcd. -/
import Derived.Test.YtjhjppaabmbbbaaPow
import Derived.Test.YtjhjppaabmbbbaaGcd
import Derived.Test.YtjhjppaabmbbbaaHelp
set_option linter.unusedVariables false
set_option linter.unusedSimpArgs false
namespace Go.Proofs.Ytjhjppaabmbbbaa
open Go.RowKit
def StepEnd (a b : Int) (w : World) (e : Ending) (w' : World) : Prop := ∃ g x, Lw.StepPost a b g x ∧ e = .returned (.tuple #[.int .i64 g, .int .i64 x]) ∧ w = w'

theorem euclid_step (a b : Int) (w : World) (a1 : Lw.absI a ≤ 4294967296) (b1 : Lw.absI b ≤ 4294967296) :
    Calls Try.prog 132 #[.int .i64 a, .int .i64 b] w (StepEnd a b w) := by
  have hs := Lib.hid (Lw.Euc.start a b)
  obtain ⟨a2, a3⟩ := Lw.absI_le a1
  obtain ⟨b2, b3⟩ := Lw.absI_le b1
  have A1 := Lib.hid a1
  have B1 := Lib.hid b1
  clear a1 b1
  go_enter Try.func132, Try.ntmps132
  go_wp2
  go_loop [0, 1, 6, 7] (fun v0 v1 v6 v7 => ∃ c d x n : Int, v0 = .int .i64 c ∧ v1 = .int .i64 d ∧ v6 = .int .i64 x ∧ v7 = .int .i64 n ∧ Hid (Lw.Euc a b c d x n)) (fun _ v1 _ _ => (intOf v1).natAbs)
  case atStart => exact ⟨a, b, 1, 0, rfl, rfl, rfl, rfl, hs⟩
  case round =>
    obtain ⟨c, d, x, n, rfl, rfl, rfl, rfl, H⟩ := hrel
    obtain ⟨⟨c1, c2⟩, ⟨d1, d2⟩, ⟨x1, x2⟩, n1, n2⟩ := H.out.facts0 A1.out B1.out
    by_cases hd : d = 0
    · subst hd
      go_wp2
      go_ret2
      exact ⟨c, x, H.out.done, rfl, rfl⟩
    · have hd0 : (d == 0) = false := by simpa using hd
      have hd1 : (d != 0) = true := by simpa using hd
      obtain ⟨⟨e1, e2⟩, ⟨f1, f2⟩, g1, g2⟩ := H.out.facts hd A1.out B1.out
      have N := Lib.hid (H.out.step hd)
      have M := Lib.hid (Lw.tdiv_rest_lt c d hd)
      clear H
      go_wp2
      go_round
      case rel => exact ⟨_, _, _, _, rfl, rfl, rfl, rfl, N⟩
      case measure =>
        have := M.out
        unfold Lw.absI at this
        simp only [intOf]
        omega
set_option maxHeartbeats 1000000 in
theorem euclid_Inverse (a m : Int) (w : World) :
    Calls Try.prog 90 #[.int .i64 a, .int .i64 m] w fun e w' => e = .returned (.tuple #[.int .i64 (Lw.invR a m), .int .i64 (Lw.invE a m)]) ∧ Below w.heap.size w w' := by
  by_cases hbad : a < -2147483648 ∨ 2147483648 < a ∨ m < 1 ∨ 1048576 < m
  · have E := Lib.hid (Lw.invE_two hbad)
    have hc : a < -2147483648 ∨ (-2147483648 ≤ a ∧ 2147483648 < a) ∨ ((-2147483648 ≤ a ∧ a ≤ 2147483648) ∧ (m < 1 ∨ (1 ≤ m ∧ 1048576 < m))) := by omega
    clear hbad
    rcases hc with h | ⟨h, h'⟩ | ⟨⟨h1, h2⟩, h | ⟨h, h'⟩⟩
    all_goals
      go_enter Try.func90, Try.ntmps90
      go_wp2_with fail
      go_in
      go_wp2_with fail
      (refine wp_loop_rounds 3 ?_; repeat any_goals (rw [rounds_succ]; go_wp2_with fail))
      go_ret2
      rw [E.out.1, E.out.2]
      exact ⟨rfl, by go_grown⟩
  · have hok : (-2147483648 ≤ a ∧ a ≤ 2147483648) ∧ 1 ≤ m ∧ m ≤ 1048576 := by omega
    obtain ⟨⟨h1, h2⟩, h3, h4⟩ := hok
    have E5 := Lib.hid (Lw.invE_five hbad)
    have E0 := Lib.hid (Lw.invE_zero hbad)
    obtain ⟨s1, s2⟩ := Lw.emod_bd a m (by omega)
    have A := Lib.hid (show Lw.absI (a % m) ≤ 4294967296 by unfold Lw.absI; omega)
    have B := Lib.hid (show Lw.absI m ≤ 4294967296 by unfold Lw.absI; omega)
    have M := Lib.hid (show Lw.absI m = m from Lw.absI_pos (by omega))
    clear hbad
    go_enter Try.func90, Try.ntmps90
    go_wp2_with fail
    go_in
    go_wp2_with fail
    (refine wp_loop_rounds 3 ?_; repeat any_goals (rw [rounds_succ]; go_wp2_with fail))
    refine (euclid_Mod _ _ _ (by omega) (by omega)).mono ?_
    rintro e w' ⟨rfl, rfl⟩
    go_wp2_with fail
    refine (euclid_step _ _ _ A.out B.out).mono ?_
    rintro e w' ⟨g, x, hP, rfl, rfl⟩
    have hg0 : 0 ≤ g := hP.2.2.2 s1 (by omega)
    have hgg : g = Lw.gcdI a m := by rw [← Lw.gcdI_emod, ← hP.1, Lw.absI_pos hg0]
    obtain ⟨x1, x2⟩ := Lw.absI_le (a := x) (b := 4294967296) (by have := hP.2.2.1; rw [M.out] at this; omega)
    by_cases hg : g = 1
    · subst hg
      have F := Lib.hid (E0.out hgg.symm)
      have G := Lib.hid (Lw.invI_of_dvd (by omega) hP.2.1)
      clear hgg hP
      go_wp2_with fail
      refine (euclid_Mod _ _ _ (by omega) (by omega)).mono ?_
      rintro e w' ⟨rfl, rfl⟩
      go_wp2_with fail
      go_ret2
      rw [F.out.1, F.out.2, G.out]
      exact ⟨rfl, by go_grown⟩
    · have F := Lib.hid (E5.out (by rw [← hgg]; exact hg))
      have hb : (g != 1) = true := by simpa using hg
      clear hgg hP hg
      go_wp2_with fail
      go_ret2
      rw [F.out.1, F.out.2]
      exact ⟨rfl, by go_grown⟩
end Go.Proofs.Ytjhjppaabmbbbaa
