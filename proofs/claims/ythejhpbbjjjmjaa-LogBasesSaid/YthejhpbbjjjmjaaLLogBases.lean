/- The law LogBases: log.Base is the reference's Base, or the reference's code. -/
import Derived.Test.YthejhpbbjjjmjaaBase
set_option linter.unusedVariables false
namespace Go.Proofs.Ythejhpbbjjjmjaa.LW
open Go.RowKit
theorem primal_far (p : Int) (w : World) (E : Lw.modI p = 2) :
    Calls Try.prog 34 #[.int .i64 p] w fun e w' => e = .returned (.int .i64 2) ∧ w = w' := by
  go_enter Try.func34, Try.ntmps34
  go_wp2_with (first | (go_at_call 16; refine (law_modulus _ _).mono ?_; rintro e w' ⟨rfl, rfl⟩) | (go_at_call 39; refine (ref_Is _ _ (by omega)).mono ?_; rintro e w' ⟨rfl, rfl⟩))
  go_ret
  exact ⟨rfl, rfl⟩
theorem primal_arg (p : Int) (w : World) (E : Lw.modI p = 0) (h2 : p ≤ 1048576) (hp : Lw.primeB p = false) :
    Calls Try.prog 34 #[.int .i64 p] w fun e w' => e = .returned (.int .i64 3) ∧ w = w' := by
  go_enter Try.func34, Try.ntmps34
  go_wp2_with (first | (go_at_call 16; refine (law_modulus _ _).mono ?_; rintro e w' ⟨rfl, rfl⟩) | (go_at_call 39; refine (ref_Is _ _ (by omega)).mono ?_; rintro e w' ⟨rfl, rfl⟩))
  go_ret
  exact ⟨rfl, rfl⟩
theorem primal_ok (p : Int) (w : World) (E : Lw.modI p = 0) (h2 : p ≤ 1048576) (hp : Lw.primeB p = true) :
    Calls Try.prog 34 #[.int .i64 p] w fun e w' => e = .returned (.int .i64 0) ∧ w = w' := by
  go_enter Try.func34, Try.ntmps34
  go_wp2_with (first | (go_at_call 16; refine (law_modulus _ _).mono ?_; rintro e w' ⟨rfl, rfl⟩) | (go_at_call 39; refine (ref_Is _ _ (by omega)).mono ?_; rintro e w' ⟨rfl, rfl⟩))
  go_ret
  exact ⟨rfl, rfl⟩
theorem LogBases (p : Int) (w : World) (wp : (Lit.int .i64 p).wf = true) :
    Calls Try.prog 9 #[.int .i64 p] w fun e w' => e = .returned (.bool true) ∧ Below w.heap.size w w' := by
  clear wp
  by_cases h : p < 1 ∨ 1048576 < p
  · have E : Lw.modI p = 2 := if_pos h
    have C := Lib.hid (fun (w : World) => log_Base_bad p 2 w rfl (fun w => log_wrong_far p w h))
    clear h
    go_enter Try.func9, Try.ntmps9
    go_wp2_with (first | (go_at_call 33; refine (C.out _).mono ?_; rintro e w1 ⟨rfl, hb1⟩; obtain ⟨hc1, hf1⟩ := Lw.bcell hb1) | (go_at_call 34; refine (primal_far _ _ E).mono ?_; rintro e w' ⟨rfl, rfl⟩))
    go_ret
    exact ⟨by simp, by (repeat (first | exact Below.refl _ _ | refine Lw.bt ?_ (by assumption) | refine Lw.balloc ?_ _ | refine Lw.bdrewN ?_ _ | refine Below.drew ?_ | refine Lw.bset ?_ (by first | (simp; done) | (simp; omega) | omega) _))⟩
  · have E : Lw.modI p = 0 := if_neg h
    obtain ⟨h1, h2⟩ : 1 ≤ p ∧ p ≤ 1048576 := by omega
    clear h
    cases hp : Lw.primeB p with
    | false =>
      have C := Lib.hid (fun (w : World) => log_Base_bad p 3 w rfl (fun w => log_wrong_arg p w h1 h2 hp))
      go_enter Try.func9, Try.ntmps9
      go_wp2_with (first | (go_at_call 33; refine (C.out _).mono ?_; rintro e w1 ⟨rfl, hb1⟩; obtain ⟨hc1, hf1⟩ := Lw.bcell hb1) | (go_at_call 34; refine (primal_arg _ _ E h2 hp).mono ?_; rintro e w' ⟨rfl, rfl⟩))
      go_ret
      exact ⟨by simp, by (repeat (first | exact Below.refl _ _ | refine Lw.bt ?_ (by assumption) | refine Lw.balloc ?_ _ | refine Lw.bdrewN ?_ _ | refine Below.drew ?_ | refine Lw.bset ?_ (by first | (simp; done) | (simp; omega) | omega) _))⟩
    | true =>
      obtain ⟨n, rfl⟩ := Int.eq_ofNat_of_zero_le (by omega : 0 ≤ p)
      have hP : Lw.Prime n := by unfold Lw.primeB at hp; rw [Int.toNat_natCast] at hp; exact of_decide_eq_true hp
      obtain ⟨b, b1, b2, b3, b4⟩ := Lw.ex_base hP
      have C := Lib.hid (fun (w : World) => log_Base_ok n b w hP (by omega) b1 b2 b3 b4)
      have D := Lib.hid (fun (w : World) => ref_Base n b w (by omega) b1 b2 b3 b4)
      clear b3 b4 hP
      go_enter Try.func9, Try.ntmps9
      go_wp2_with (first | (go_at_call 33; refine (C.out _).mono ?_; rintro e w1 ⟨rfl, hb1⟩; obtain ⟨hc1, hf1⟩ := Lw.bcell hb1) | (go_at_call 34; refine (primal_ok _ _ E h2 hp).mono ?_; rintro e w' ⟨rfl, rfl⟩) | (go_at_call 35; refine (D.out _).mono ?_; rintro e w' ⟨rfl, rfl⟩))
      go_ret
      exact ⟨by simp, by (repeat (first | exact Below.refl _ _ | refine Lw.bt ?_ (by assumption) | refine Lw.balloc ?_ _ | refine Lw.bdrewN ?_ _ | refine Below.drew ?_ | refine Lw.bset ?_ (by first | (simp; done) | (simp; omega) | omega) _))⟩
end Go.Proofs.Ythejhpbbjjjmjaa.LW
