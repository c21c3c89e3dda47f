/- Contracts of log.Base and of the reference's Base: the least primitive root. -/
import Derived.Test.YthejhpbbjjjmjaaGen
import Derived.Test.YthejhpbbjjjmjaaIs
import Derived.Test.YthejhpbbjjjmjaaHelp
namespace Lw
theorem Ords.ord {g : Int} {p : Nat} {k : Nat} (hk : 1 ≤ k) (hk2 : k ≤ p) (h : Ords g (p : Int) k) : ordI g (p : Int) = (k : Int) :=
  ordI_eq hk (by omega) ((h k).2 (Nat.dvd_refl _)) (fun j j1 j2 hj => by have := Nat.le_of_dvd (by omega) ((h j).1 hj); omega)
/-- the number of a least primitive root -/
theorem ex_base {p : Nat} (hp : Prime p) : ∃ b : Nat, 1 ≤ b ∧ b < p ∧ ordI (b : Int) (p : Int) = (p : Int) - 1 ∧ ∀ j : Nat, 1 ≤ j → j < b → ¬ ordI (j : Int) (p : Int) = (p : Int) - 1 := by
  have hp2 := hp.1
  obtain ⟨g, g1, g2, g3⟩ := prim_root hp
  have hg : ordI (g : Int) (p : Int) = (p : Int) - 1 := by rw [g3.ord (by omega) (by omega)]; omega
  clear g3
  induction g using Nat.strongRecOn with
  | ind g ih =>
    by_cases h : ∃ j : Nat, 1 ≤ j ∧ j < g ∧ ordI (j : Int) (p : Int) = (p : Int) - 1
    · obtain ⟨j, j1, j2, j3⟩ := h
      exact ih j j2 j1 (by omega) j3
    · exact ⟨g, g1, g2, hg, fun j j1 j2 j3 => h ⟨j, j1, j2, j3⟩⟩
theorem gcd_lt {p : Nat} (hp : Prime p) {g : Nat} (g1 : 1 ≤ g) (g2 : g < p) : gcdI (g : Int) (p : Int) = 1 := by
  have h := hp.coprime (a := g) (fun e => by have := Nat.le_of_dvd (by omega) e; omega)
  unfold gcdI
  rw [Int.gcd, Int.natAbs_natCast, Int.natAbs_natCast, Nat.gcd_comm, h]; rfl
end Lw
set_option linter.unusedVariables false
set_option linter.unusedSimpArgs false
namespace Go.Proofs.Ythejhpbbjjjmjaa
open Go.RowKit
theorem ref_Base (p b : Nat) (w : World) (h2 : p ≤ 1048576) (b1 : 1 ≤ b) (b2 : b < p) (hb : Lw.ordI (b : Int) (p : Int) = (p : Int) - 1) (hl : ∀ j : Nat, 1 ≤ j → j < b → ¬ Lw.ordI (j : Int) (p : Int) = (p : Int) - 1) :
    Calls Try.prog 35 #[.int .i64 (p : Int)] w fun e w' => e = .returned (.int .i64 (b : Int)) ∧ w = w' := by
  have HB := Lib.hid hb
  have HL := Lib.hid hl
  clear hb hl
  go_enter Try.func35, Try.ntmps35
  go_wp2
  go_loop [3] (fun g => ∃ k : Nat, g = .int .i64 (k : Int) ∧ 1 ≤ k ∧ k ≤ b) (fun g => b + 1 - (intOf g).toNat)
  case atStart => exact ⟨1, rfl, by omega, by omega⟩
  case round =>
    obtain ⟨k, rfl, k1, k2⟩ := hrel
    by_cases hk : k = b
    · subst hk
      have ht : (Lw.ordI (k : Int) (p : Int) == (p : Int) - 1) = true := by simp; exact HB.out
      go_wp2_with (go_at_call 32; refine (ref_Order _ _ _ (by omega) (by omega)).mono ?_; rintro e w' ⟨rfl, rfl⟩)
      go_ret
      exact ⟨rfl, rfl⟩
    · have ht : (Lw.ordI (k : Int) (p : Int) == (p : Int) - 1) = false := by simp; exact HL.out k k1 (by omega)
      go_wp2_with (go_at_call 32; refine (ref_Order _ _ _ (by omega) (by omega)).mono ?_; rintro e w' ⟨rfl, rfl⟩)
      go_round
      case rel => exact ⟨k + 1, by go_num, by omega, by omega⟩
      case measure => simp [intOf]; omega
theorem log_wrong_ok (p : Int) (w : World) (h1 : 1 ≤ p) (h2 : p ≤ 1048576) (hp : Lw.primeB p = true) :
    Calls Try.prog 64 #[.int .i64 p, .slice none 0 0] w fun e w' => e = .returned (.int .i64 0) ∧ Below w.heap.size w w' := by
  have HP := Lib.hid (hp ▸ primes_Is p · h1 h2)
  clear hp
  go_enter Try.func64, Try.ntmps64
  go_wp2
  refine wp_loop_rounds 1 ?_
  repeat any_goals (rw [rounds_succ]; go_wp2_with (go_at_call 65; refine (HP.out _).mono ?_; rintro e w1 ⟨rfl, hb1⟩; obtain ⟨hc1, hf1⟩ := Lw.bcell hb1))
  go_ret
  exact ⟨rfl, by (repeat (first | exact Below.refl _ _ | refine Lw.bt ?_ (by assumption) | refine Lw.balloc ?_ _ | refine Lw.bdrewN ?_ _ | refine Below.drew ?_ | refine Lw.bset ?_ (by first | (simp; done) | (simp; omega) | omega) _))⟩
theorem log_wrong_arg (p : Int) (w : World) (h1 : 1 ≤ p) (h2 : p ≤ 1048576) (hp : Lw.primeB p = false) :
    Calls Try.prog 64 #[.int .i64 p, .slice none 0 0] w fun e w' => e = .returned (.int .i64 3) ∧ Below w.heap.size w w' := by
  have HP := Lib.hid (hp ▸ primes_Is p · h1 h2)
  clear hp
  go_enter Try.func64, Try.ntmps64
  go_wp2
  refine wp_loop_rounds 1 ?_
  repeat any_goals (rw [rounds_succ]; go_wp2_with (go_at_call 65; refine (HP.out _).mono ?_; rintro e w1 ⟨rfl, hb1⟩; obtain ⟨hc1, hf1⟩ := Lw.bcell hb1))
  go_ret
  exact ⟨rfl, by (repeat (first | exact Below.refl _ _ | refine Lw.bt ?_ (by assumption) | refine Lw.balloc ?_ _ | refine Lw.bdrewN ?_ _ | refine Below.drew ?_ | refine Lw.bset ?_ (by first | (simp; done) | (simp; omega) | omega) _))⟩
theorem log_wrong_far (p : Int) (w : World) (h : p < 1 ∨ 1048576 < p) :
    Calls Try.prog 64 #[.int .i64 p, .slice none 0 0] w fun e w' => e = .returned (.int .i64 2) ∧ Below w.heap.size w w' := by
  have HP := Lib.hid (primes_Is_bad p · h)
  clear h
  go_enter Try.func64, Try.ntmps64
  go_wp2
  refine wp_loop_rounds 1 ?_
  repeat any_goals (rw [rounds_succ]; go_wp2_with (go_at_call 65; refine (HP.out _).mono ?_; rintro e w1 ⟨rfl, hb1⟩; obtain ⟨hc1, hf1⟩ := Lw.bcell hb1))
  go_ret
  exact ⟨rfl, by (repeat (first | exact Below.refl _ _ | refine Lw.bt ?_ (by assumption) | refine Lw.balloc ?_ _ | refine Lw.bdrewN ?_ _ | refine Below.drew ?_ | refine Lw.bset ?_ (by first | (simp; done) | (simp; omega) | omega) _))⟩
theorem log_Base_bad (p E : Int) (w : World) (hn : (E != 0) = true) (H : ∀ w : World, Calls Try.prog 64 #[.int .i64 p, .slice none 0 0] w fun e w' => e = .returned (.int .i64 E) ∧ Below w.heap.size w w') :
    Calls Try.prog 33 #[.int .i64 p] w fun e w' => e = .returned (.tuple #[.int .i64 0, .int .i64 E]) ∧ Below w.heap.size w w' := by
  have H := Lib.hid H
  go_enter Try.func33, Try.ntmps33
  go_wp2_with (go_at_call 64; refine (H.out _).mono ?_; rintro e w1 ⟨rfl, hb1⟩; obtain ⟨hc1, hf1⟩ := Lw.bcell hb1)
  go_ret2
  exact ⟨rfl, by (repeat (first | exact Below.refl _ _ | refine Lw.bt ?_ (by assumption) | refine Lw.balloc ?_ _ | refine Lw.bdrewN ?_ _ | refine Below.drew ?_ | refine Lw.bset ?_ (by first | (simp; done) | (simp; omega) | omega) _))⟩
theorem log_Base_ok (p b : Nat) (w : World) (hp : Lw.Prime p) (h2 : p ≤ 1048576) (b1 : 1 ≤ b) (b2 : b < p) (hb : Lw.ordI (b : Int) (p : Int) = (p : Int) - 1) (hl : ∀ j : Nat, 1 ≤ j → j < b → ¬ Lw.ordI (j : Int) (p : Int) = (p : Int) - 1) :
    Calls Try.prog 33 #[.int .i64 (p : Int)] w fun e w' => e = .returned (.tuple #[.int .i64 (b : Int), .int .i64 0]) ∧ Below w.heap.size w w' := by
  have HB := Lib.hid hb
  have HL := Lib.hid hl
  have HP := Lib.hid hp
  have H := Lib.hid (fun w => log_wrong_ok (p : Int) w (by omega) (by omega) (by unfold Lw.primeB; rw [Int.toNat_natCast]; exact decide_eq_true hp))
  clear hb hl hp
  go_enter Try.func33, Try.ntmps33
  go_wp2_with (go_at_call 64; refine (H.out _).mono ?_; rintro e w1 ⟨rfl, hb1⟩; obtain ⟨hc1, hf1⟩ := Lw.bcell hb1)
  clear hc1 hf1
  go_loopw [5] (fun g wr => ∃ k : Nat, g = .int .i64 (k : Int) ∧ 1 ≤ k ∧ k ≤ b ∧ Below w1.heap.size w1 wr) (fun g _ => b + 1 - (intOf g).toNat)
  case atStart => exact ⟨1, rfl, by omega, by omega, Below.refl _ _⟩
  case round =>
    obtain ⟨k, rfl, k1, k2, hBr⟩ := hrel
    have HG := Lib.hid (Lw.gcd_lt HP.out k1 (by omega))
    by_cases hk : k = b
    · subst hk
      have ht : (Lw.ordI (k : Int) (p : Int) == (p : Int) - 1) = true := by simp; exact HB.out
      go_wp2_with (go_at_call 31; refine (power_Order_ok (k : Int) p _ (by omega) (by omega) (by omega) (by omega) HG.out).mono ?_; rintro e w2 ⟨rfl, hb2⟩)
      go_ret2
      exact ⟨rfl, Lw.bt (Lw.bt hb1 hBr) hb2⟩
    · have ht : (Lw.ordI (k : Int) (p : Int) == (p : Int) - 1) = false := by simp; exact HL.out k k1 (by omega)
      go_wp2_with (go_at_call 31; refine (power_Order_ok (k : Int) p _ (by omega) (by omega) (by omega) (by omega) HG.out).mono ?_; rintro e w2 ⟨rfl, hb2⟩)
      go_roundw
      case rel => exact ⟨k + 1, by go_num, by omega, by omega, Lw.bt hBr hb2⟩
      case measure => simp [intOf]; omega
end Go.Proofs.Ythejhpbbjjjmjaa
