/- The law LogPowers: log.Log is the reference's least logarithm, or the code. -/
import Derived.Test.YtlgegdmnbhoepaaLgw
set_option linter.unusedVariables false
namespace Lw
theorem lg_at {g a p r k : Int} (h : LgP g a p r) (h0 : 0 ≤ k) (h1 : k ≤ p) (h2 : ∀ j, 0 ≤ j → j < k → ¬ pw g j p = a % p) (h3 : pw g k p = a % p) : r = k := lg_least h h0 h1 h3 h2
theorem pw_next (g k p : Int) (hk : 0 ≤ k) : pw g k p * (g % p) % p = pw g (k + 1) p := by
  rw [pw_add g k 1 p hk (by omega), pw_one]
end Lw
namespace Go.Proofs.Ytlgegdmnbhoepaa
open Go.RowKit
set_option maxHeartbeats 1000000 in
theorem ref_Log (g a p r : Int) (w : World) (h1 : 2 ≤ p) (h2 : p ≤ 1048576) (hr : Lw.LgP g a p r) :
    Calls Try.prog 24 #[.int .i64 g, .int .i64 a, .int .i64 p] w fun e w' => e = .returned (.int .i64 r) ∧ w = w' := by
  have MG := Lib.hid (fun w => ref_Mod g p w (by omega) (by omega))
  have MA := Lib.hid (fun w => ref_Mod a p w (by omega) (by omega))
  have AT := Lib.hid (fun k h0 h1 a b => Lw.lg_at hr (k := k) h0 h1 a b)
  have NO := Lib.hid (fun h => Lw.lg_none hr h)
  have PN := Lib.hid (fun k hk => Lw.pw_next g k p hk)
  have PB := Lib.hid (fun k : Int => Lw.pw_bd g k p (by omega))
  have P0 := Lw.pw_zero g p
  obtain ⟨g0, g1⟩ := Lw.emod_bd g p (by omega)
  obtain ⟨a0, a1⟩ := Lw.emod_bd a p (by omega)
  obtain ⟨G, hG⟩ : ∃ G, g % p = G := ⟨_, rfl⟩
  obtain ⟨B, hB⟩ : ∃ B, a % p = B := ⟨_, rfl⟩
  rw [hG] at MG g0 g1 PN
  rw [hB] at MA a0 a1 AT NO
  generalize Lw.pw g = f at *
  have e1 : (1 : Int).tmod p = f 0 p := by rw [P0, Int.tmod_eq_emod_of_nonneg (by omega)]
  have P0 := Lib.hid P0
  have pz : ¬ p = 0 := by omega
  have PP := Lib.hid (fun (x : Int) a b => Lw.prod_bd (a := x) (b := G) (p := p) a b g0 g1 h2)
  have TM := Lib.hid (fun (x : Int) (h : 0 ≤ x) => (Int.tmod_eq_emod_of_nonneg h : x.tmod p = x % p))
  obtain ⟨z0, z1⟩ := PB.out 0
  clear hr hG hB
  go_enter Try.func24, Try.ntmps24
  go_wp2_with fail
  go_loop [7, 8] (fun x i => ∃ k : Nat, i = .int .i64 (k : Int) ∧ (k : Int) ≤ p + 1 ∧ x = .int .i64 (f (k : Int) p) ∧ Hid (∀ j, 0 ≤ j → j < (k : Int) → ¬ f j p = B)) (fun _ i => p.toNat + 2 - (intOf i).toNat)
  case atStart => exact ⟨0, rfl, by omega, by first | rfl | (rw [show ((0 : Nat) : Int) = 0 from rfl, P0.out]) | (simp [P0.out]), (fun j h0 h1 => absurd h0 (by omega))⟩
  case round =>
    obtain ⟨k, rfl, hk, rfl, NP⟩ := hrel
    by_cases hlt : (k : Int) ≤ p
    · have ATk := Lib.hid (AT.out (k : Int) (by omega) hlt NP.out)
      obtain ⟨b0, b1⟩ := PB.out (k : Int)
      have pn := PN.out (k : Int) (by omega)
      have NX : Hid (¬ f (k : Int) p = B → ∀ j, 0 ≤ j → j < (k : Int) + 1 → ¬ f j p = B) := fun h j h0 h1 => by
        by_cases e : j = (k : Int)
        · subst e; exact h
        · exact NP.out j h0 (by omega)
      obtain ⟨x, hx⟩ : ∃ x, f (k : Int) p = x := ⟨_, rfl⟩
      rw [hx] at ATk b0 b1 pn NX
      rw [hx]
      obtain ⟨q0, q1⟩ := PP.out x b0 b1
      have tm := TM.out (x * G) q0
      rw [pn] at tm
      have PE := Lib.hid pn
      clear pn hx NP
      by_cases hxB : x = B
      · have RR := Lib.hid (ATk.out hxB)
        have zb : (x == B) = true := by simpa using hxB
        clear ATk NX AT NO tm hxB
        go_wp2_with (first | (go_at_call 64; (with_reducible refine (MA.out _).mono ?_); rintro e w' ⟨rfl, rfl⟩))
        go_ret
        exact ⟨by rw [RR.out]; rfl, rfl⟩
      · have zb : (x == B) = false := by simpa using hxB
        have N2 := Lib.hid (NX.out hxB)
        clear ATk NX AT NO
        go_wp2_with (first | (go_at_call 64; (with_reducible refine (MA.out _).mono ?_); rintro e w' ⟨rfl, rfl⟩) | (go_at_call 64; (with_reducible refine (MG.out _).mono ?_); rintro e w' ⟨rfl, rfl⟩))
        go_round
        case rel => exact ⟨k + 1, by go_num, by omega, by (try rfl), fun j h0 h1 => N2.out j h0 (by omega)⟩
        case measure => simp [intOf]; omega
    · have RR := Lib.hid (NO.out (fun j h0 h1 => NP.out j h0 (by omega)))
      clear AT NO PN
      go_wp2_with fail
      go_ret
      exact ⟨by rw [RR.out]; rfl, rfl⟩
namespace LW
set_option maxHeartbeats 1000000 in
theorem LogPowers (g a p : Int) (w : World) (wg : (Lit.int .i64 g).wf = true) (wa : (Lit.int .i64 a).wf = true) (wp : (Lit.int .i64 p).wf = true) :
    Calls Try.prog 6 #[.int .i64 g, .int .i64 a, .int .i64 p] w fun e w' => e = .returned (.bool true) ∧ Below w.heap.size w w' := by
  clear wg wa wp
  by_cases h : Lw.firstI (Lw.bothI g a) (Lw.prI p) = 0
  · have hbf : Lw.bothI g a = 0 ∧ Lw.prI p = 0 := by
      unfold Lw.firstI at h
      by_cases h0 : Lw.bothI g a = 0
      · rw [if_pos h0] at h; exact ⟨h0, h⟩
      · rw [if_neg h0] at h; exact absurd h h0
    have hp : 1 ≤ p ∧ p ≤ 1048576 ∧ Lw.primeB p = true := by
      have h1 := hbf.2
      unfold Lw.prI at h1
      by_cases h2 : p < 1 ∨ 1048576 < p
      · rw [if_pos h2] at h1; cases h1
      · rw [if_neg h2] at h1
        cases h3 : Lw.primeB p with
        | true => exact ⟨by omega, by omega, rfl⟩
        | false => rw [h3] at h1; cases h1
    obtain ⟨h1, h2, h3⟩ := hp
    obtain ⟨n, rfl⟩ := Int.eq_ofNat_of_zero_le (by omega : 0 ≤ p)
    have hP : Lw.Prime n := by unfold Lw.primeB at h3; rw [Int.toNat_natCast] at h3; exact of_decide_eq_true h3
    obtain ⟨r, hr⟩ := Lw.lg_ex g a (n : Int)
    have X := Lib.hid (log_Log_ok g a n r w h hP (by omega) hr)
    have Y := Lib.hid (fun w => ref_Log g a (n : Int) r w (by have := hP.1; omega) (by omega) hr)
    have B := fun w => law_both g a w
    rw [hbf.1] at B
    have PR := fun w => law_primal (n : Int) w
    rw [hbf.2] at PR
    have F0 := Lw.firstI_zero 0
    replace B := Lib.hid B
    replace PR := Lib.hid PR
    clear h hbf h3 hP hr
    go_enter Try.func6, Try.ntmps6
    go_wp2_with fail
    refine X.out.mono ?_
    rintro e w1 ⟨rfl, hb1⟩
    unfold Lw.LgRes
    by_cases hr0 : r < 0
    · rw [if_pos hr0]
      go_wp2_with (first | (go_at_call 22; (with_reducible refine (B.out _).mono ?_); rintro e w' ⟨rfl, rfl⟩) | (go_at_call 23; (with_reducible refine (PR.out _).mono ?_); rintro e w' ⟨rfl, rfl⟩) | (go_at_call 21; refine (law_first _ _ _).mono ?_; rintro e w' ⟨rfl, rfl⟩) | (go_at_call 24; (with_reducible refine (Y.out _).mono ?_); rintro e w' ⟨rfl, rfl⟩))
      go_ret
      exact ⟨by simp, hb1⟩
    · rw [if_neg hr0]
      go_wp2_with (first | (go_at_call 22; (with_reducible refine (B.out _).mono ?_); rintro e w' ⟨rfl, rfl⟩) | (go_at_call 23; (with_reducible refine (PR.out _).mono ?_); rintro e w' ⟨rfl, rfl⟩) | (go_at_call 21; refine (law_first _ _ _).mono ?_; rintro e w' ⟨rfl, rfl⟩) | (go_at_call 24; (with_reducible refine (Y.out _).mono ?_); rintro e w' ⟨rfl, rfl⟩))
      go_ret
      exact ⟨by simp, hb1⟩
  · have X := Lib.hid (log_Log_bad g a p w h)
    have B := Lib.hid (fun w => law_both g a w)
    have PR := Lib.hid (fun w => law_primal p w)
    have zv : (Lw.firstI (Lw.bothI g a) (Lw.prI p) == 0) = false := by simpa using h
    have zv' : (Lw.firstI (Lw.bothI g a) (Lw.prI p) != 0) = true := by simpa using h
    have FF := Lib.hid (fun w => law_first (Lw.bothI g a) (Lw.prI p) w)
    generalize Lw.firstI (Lw.bothI g a) (Lw.prI p) = V at *
    generalize Lw.bothI g a = U at *
    generalize Lw.prI p = T at *
    clear h
    go_enter Try.func6, Try.ntmps6
    go_wp2_with fail
    refine X.out.mono ?_
    rintro e w1 ⟨rfl, hb1⟩
    go_wp2_with (first | (go_at_call 22; (with_reducible refine (B.out _).mono ?_); rintro e w' ⟨rfl, rfl⟩) | (go_at_call 23; (with_reducible refine (PR.out _).mono ?_); rintro e w' ⟨rfl, rfl⟩) | (go_at_call 21; (with_reducible refine (FF.out _).mono ?_); rintro e w' ⟨rfl, rfl⟩))
    go_ret
    exact ⟨by simp, hb1⟩
end LW
end Go.Proofs.Ytlgegdmnbhoepaa
