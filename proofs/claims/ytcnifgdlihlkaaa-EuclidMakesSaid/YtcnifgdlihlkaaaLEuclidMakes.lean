/- The law EuclidMakes: euclid.Bezout tells the greatest common divisor, and how it is made of both numbers. -/
import Derived.Test.YtcnifgdlihlkaaaBez
set_option linter.unusedVariables false
namespace Go.Proofs.Ytcnifgdlihlkaaa.LW
open Go.RowKit
set_option maxHeartbeats 1000000 in
theorem EuclidMakes (a b : Int) (w : World) (wa : (Lit.int .i64 a).wf = true) (wb : (Lit.int .i64 b).wf = true) :
    Calls Try.prog 6 #[.int .i64 a, .int .i64 b] w fun e w' => e = .returned (.bool true) ∧ Below w.heap.size w w' := by
  clear wa wb
  have hc : ((Lw.farB a = true ∨ Lw.farB b = true) ∧ Lw.bothI a b = 2) ∨ (Lw.farB a = false ∧ Lw.farB b = false ∧ Lw.bothI a b = 0) := by
    unfold Lw.bothI; cases Lw.farB a <;> cases Lw.farB b <;> simp
  rcases hc with ⟨hb, E⟩ | ⟨h1, h2, E⟩
  · have HB := Lib.hid hb
    clear hb
    go_enter Try.func6, Try.ntmps6
    go_wp2_with (first | (go_at_call 24; refine (euclid_Bezout_bad _ _ _ HB.out).mono ?_; rintro e w1 ⟨rfl, hb1⟩; obtain ⟨hc1, hf1⟩ := Lw.bcell hb1) | (go_at_call 19; refine (law_both _ _ _).mono ?_; rintro e w' ⟨rfl, rfl⟩))
    go_ret
    exact ⟨rfl, Lw.bt (by go_grown) hb1⟩
  · obtain ⟨a1, a2⟩ := Lw.of_farB_false h1
    obtain ⟨b1, b2⟩ := Lw.of_farB_false h2
    have H1 := Lib.hid h1
    have H2 := Lib.hid h2
    clear h1 h2
    go_enter Try.func6, Try.ntmps6
    go_wp2_with fail
    refine (euclid_Bezout _ _ _ H1.out H2.out).mono ?_
    rintro e w1 ⟨g, x, y, P, rfl, hb1⟩
    obtain rfl := P.gcd
    by_cases hb0 : b = 0
    · subst hb0
      obtain ⟨rfl, p2, p3, p4, p5⟩ := P.zero rfl
      clear P
      by_cases ha0 : a = 0
      · subst ha0
        obtain rfl := p5 rfl
        have Z : Lw.gcdI 0 0 = 0 := rfl
        clear p2 p5
        go_wp2_with (first | (go_at_call 19; refine (law_both _ _ _).mono ?_; rintro e w' ⟨rfl, rfl⟩) | (go_at_call 25; refine (ref_Gcd _ _ _ (by omega) (by omega) (by omega) (by omega)).mono ?_; rintro e w' ⟨rfl, rfl⟩))
        go_ret
        exact ⟨by simp, Lw.bt (by go_grown) hb1⟩
      · have ha1 : (a == 0) = false := by simpa using ha0
        have ha2 : (a != 0) = true := by simpa using ha0
        have G := Lw.gcdI_nonneg a 0
        have G2 : Lw.gcdI a 0 ≤ 2147483648 := by rw [Lw.gcdI_zero_right]; unfold Lw.absI; omega
        have W0 : wrap64 (x * a) = Lw.gcdI a 0 := by rw [p2]; exact IntWalk.wrap64_in _ (by omega)
        clear p5 p2
        go_wp2_with (first | (go_at_call 19; refine (law_both _ _ _).mono ?_; rintro e w' ⟨rfl, rfl⟩) | (go_at_call 25; refine (ref_Gcd _ _ _ (by omega) (by omega) (by omega) (by omega)).mono ?_; rintro e w' ⟨rfl, rfl⟩))
        go_ret
        exact ⟨by simp, Lw.bt (by go_grown) hb1⟩
    · obtain ⟨p1, p2, p3, rfl⟩ := P.pos hb0
      clear P
      have hb2 : (b == 0) = false := by simpa using hb0
      have hb3 : (b != 0) = true := by simpa using hb0
      have hg0 : 0 < Lw.gcdI a b := Lw.gcdI_pos (.inr hb0)
      have T : (Lw.gcdI a b - x * a).tmod b = 0 := Int.tmod_eq_zero_of_dvd p3
      have A : Lw.absI a ≤ 2147483648 := by unfold Lw.absI; omega
      have hB0 := Lw.absI_nonneg b
      have hB1 : Lw.absI b ≤ 2147483648 := by unfold Lw.absI; omega
      have hm : Lw.absI b / Lw.gcdI a b ≤ 2147483648 := by
        have := Int.ediv_le_self (Lw.gcdI a b) (Lw.absI_nonneg b)
        omega
      have hgb : Lw.gcdI a b ≤ 4294967296 := (Lw.gcd_bd (Lw.absI_pos (Lw.gcdI_nonneg a b)) (by omega) (by omega)).2
      obtain ⟨hp1, hp2⟩ := Lw.bez_prod p1 (by omega) A
      obtain ⟨y1, y2⟩ := Lw.tdiv_le (c := Lw.gcdI a b - x * a) (d := b) (B := 4611686027017322496) (by omega) (by omega)
      clear p3
      go_wp2_with (first | (go_at_call 19; refine (law_both _ _ _).mono ?_; rintro e w' ⟨rfl, rfl⟩) | (go_at_call 25; refine (ref_Gcd _ _ _ (by omega) (by omega) (by omega) (by omega)).mono ?_; rintro e w' ⟨rfl, rfl⟩) | (go_at_call 26; refine (ref_Abs _ _ (by omega) (by omega)).mono ?_; rintro e w' ⟨rfl, rfl⟩))
      go_ret
      exact ⟨by simp, Lw.bt (by go_grown) hb1⟩
end Go.Proofs.Ytcnifgdlihlkaaa.LW
