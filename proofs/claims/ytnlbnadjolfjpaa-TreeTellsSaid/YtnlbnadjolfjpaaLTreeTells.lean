/- The law TreeTells: the proof of a leaf. -/
import Derived.Test.YtnlbnadjolfjpaaTry
set_option linter.unusedVariables false
namespace Go.Proofs.Ytnlbnadjolfjpaa.LW
open Go.RowKit
set_option maxHeartbeats 2000000 in
theorem TreeTells (A : Option Addr) (n c : Nat) (i : Int) (w : World) (h : Lw.IsSl w [Lw.IsS w [Lw.IsI .u8]] A n c) (wi : (Lit.int .i64 i).wf = true) :
    Calls Try.prog 8 #[.slice A n c, .int .i64 i] w fun e w' => e = .returned (.bool true) ∧ Below w.heap.size w w' := by
  obtain ⟨T, hT⟩ := Lw.tab_of h
  have LC := Lib.hid (fun w' (hb : Below w.heap.size w w') => ref_LeafsCheck A n c T w' (hT.below (Nat.le_refl _) hb).1)
  by_cases h0 : Lw.lvE n T = 0
  · by_cases hi : i < 0 ∨ (n : Int) ≤ i
    · have PB := Lib.hid (prove_out A n c i T w hT.1 h0 hi)
      rw [h0] at LC
      clear hT h h0 wi
      rcases (by omega : i < 0 ∨ (¬ i < 0 ∧ (n : Int) ≤ i)) with h1 | ⟨h1, h2⟩
      all_goals
        clear hi
        go_enter Try.func8, Try.ntmps8
        go_wp2_with (first | (go_at_call 25; (with_reducible refine (PB.out).mono ?_); rintro e w1 ⟨rfl, hb1⟩) | (go_at_call 16; (with_reducible refine (LC.out _ hb1).mono ?_); rintro e w2 ⟨rfl, rfl⟩))
        go_ret
        exact ⟨by simp, hb1⟩
    · obtain ⟨i, rfl⟩ := Int.eq_ofNat_of_zero_le (by omega : 0 ≤ i)
      have hi' : i < n := by omega
      obtain ⟨p0, p1, p2⟩ := Lw.lv_in h0
      have PG := tree_Prove A n c i T w hT.1 hT.2 h0 hi'
      have RG := fun w' (hb : Below w.heap.size w w') => ref_Prove A n c i T w' (hT.below (Nat.le_refl _) hb).1 (hT.below (Nat.le_refl _) hb).2 h0 hi'
      have pl := Lw.prf_len T n i (Lw.hgt n)
      have hl := Lw.hgt_le n
      rw [h0] at LC
      obtain ⟨P, hP⟩ : ∃ P, Lw.prfL T n i (Lw.hgt n) = P := ⟨_, rfl⟩
      rw [hP] at PG RG pl
      replace PG := Lib.hid PG
      replace RG := Lib.hid RG
      have hi1 : ¬ (i : Int) < 0 := by omega
      have hi2 : ¬ (n : Int) ≤ (i : Int) := by omega
      clear hT h h0 hP wi hi
      go_enter Try.func8, Try.ntmps8
      go_wp2_with fail
      refine PG.out.mono ?_
      rintro e w1 ⟨A1, c1, rfl, own1, hb1⟩
      have R1 := Lib.hid (Lw.Rd.of_own own1)
      clear own1
      go_wp2_with (first | (go_at_call 16; (with_reducible refine (LC.out _ hb1).mono ?_); rintro e w2 ⟨rfl, rfl⟩) | (go_at_call 27; (with_reducible refine (RG.out _ hb1).mono ?_); rintro e w3 ⟨A3, c3, rfl, own3, hb3⟩; have R3 := Lib.hid (Lw.Rd.of_own own3); clear own3) | (go_at_call 26; (with_reducible refine (law_nodes A1 A3 P.length P.length c1 c3 P P _ (R1.out.below (Nat.le_refl _) hb3) R3.out (by omega) (by omega)).mono ?_); rintro e w4 ⟨rfl, hb4⟩))
      go_ret
      exact ⟨by simp, Lw.bt (Lw.bt hb1 hb3) hb4⟩
  · have PB := Lib.hid (prove_bad A n c i T w hT.1 h0)
    have z : (Lw.lvE n T == 0) = false := by simpa using h0
    generalize Lw.lvE n T = V at *
    clear hT h h0
    go_enter Try.func8, Try.ntmps8
    go_wp2_with (first | (go_at_call 25; (with_reducible refine (PB.out).mono ?_); rintro e w1 ⟨rfl, hb1⟩) | (go_at_call 16; (with_reducible refine (LC.out _ hb1).mono ?_); rintro e w2 ⟨rfl, rfl⟩))
    go_ret
    exact ⟨by simp, hb1⟩
end Go.Proofs.Ytnlbnadjolfjpaa.LW
