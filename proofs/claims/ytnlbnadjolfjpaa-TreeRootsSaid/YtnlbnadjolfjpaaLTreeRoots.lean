/- The law TreeRoots: the root of any leafs. -/
import Derived.Test.YtnlbnadjolfjpaaTrw
set_option linter.unusedVariables false
namespace Lw
open Go Go.RowKit
theorem hgt_le : ∀ n, hgt n ≤ n := by
  intro n
  induction n using Nat.strongRecOn with
  | ind n ih =>
    unfold hgt
    by_cases h : n ≤ 1
    · rw [if_pos h]; omega
    · rw [if_neg h]; have := ih ((n + 1) / 2) (by omega); omega
theorem mny_pos {n : Nat} (h : 0 < n) : ∀ k, 0 < mny n k
  | 0 => h
  | k + 1 => by have := mny_pos h k; show 0 < (mny n k + 1) / 2; omega
end Lw
namespace Go.Proofs.Ytnlbnadjolfjpaa.LW
open Go.RowKit
set_option maxHeartbeats 2000000 in
theorem TreeRoots (A : Option Addr) (n c : Nat) (w : World) (h : Lw.IsSl w [Lw.IsS w [Lw.IsI .u8]] A n c) :
    Calls Try.prog 5 #[.slice A n c] w fun e w' => e = .returned (.bool true) ∧ Below w.heap.size w w' := by
  obtain ⟨T, hT⟩ := Lw.tab_of h
  have RT := tree_Root A n c T w hT.1 hT.2
  have LC := Lib.hid (fun w' (hb : Below w.heap.size w w') => ref_LeafsCheck A n c T w' (hT.below (Nat.le_refl _) hb).1)
  by_cases h0 : Lw.lvE n T = 0
  · rw [if_pos h0] at RT
    obtain ⟨p0, p1, p2⟩ := Lw.lv_in h0
    have HH := Lib.hid (fun w => ref_Height n w p0 p1)
    have h64 : Lw.hgt n ≤ 64 := by have := Lw.hgt_le n; omega
    have ND := fun W hb => ref_Node A n c T w hT.1 (fun r hr => ⟨Lw.txtOk_row (hT.2 r hr) (Lw.anyLong_at p2 hr), by have := Lw.anyLong_at p2 hr; omega⟩) p1 (Lw.hgt n) 0 W hb h64 (Lw.mny_pos p0 _)
    rw [show ((0 : Nat) : Int) = 0 from rfl] at ND
    replace ND := Lib.hid ND
    obtain ⟨v0, v1⟩ := Lw.ndR_at (T := T) (Lw.hgt n) 0
    rw [h0] at RT LC
    replace RT := Lib.hid RT
    generalize (Lw.ndR T (Lw.hgt n)).getD 0 0 = V at *
    generalize Lw.hgt n = k at *
    have e : IntKind.u32.wrap V = V := by rw [IntKind.wrap_u32]; omega
    clear hT h h0 h64
    go_enter Try.func5, Try.ntmps5
    go_wp2_with (first | (go_at_call 15; (with_reducible refine (RT.out).mono ?_); rintro e w1 ⟨rfl, hb1⟩) | (go_at_call 16; (with_reducible refine (LC.out _ hb1).mono ?_); rintro e w2 ⟨rfl, rfl⟩) | (go_at_call 18; (with_reducible refine (HH.out _).mono ?_); rintro e w2 ⟨rfl, rfl⟩) | (go_at_call 17; (with_reducible refine (ND.out _ hb1).mono ?_); rintro e w3 ⟨rfl, hb3⟩))
    go_ret
    exact ⟨by simp, Lw.bt hb1 hb3⟩
  · rw [if_neg h0] at RT
    have z : (Lw.lvE n T == 0) = false := by simpa using h0
    replace RT := Lib.hid RT
    generalize Lw.lvE n T = V at *
    clear hT h h0
    go_enter Try.func5, Try.ntmps5
    go_wp2_with (first | (go_at_call 15; (with_reducible refine (RT.out).mono ?_); rintro e w1 ⟨rfl, hb1⟩) | (go_at_call 16; (with_reducible refine (LC.out _ hb1).mono ?_); rintro e w2 ⟨rfl, rfl⟩))
    go_ret
    exact ⟨by simp, hb1⟩
end Go.Proofs.Ytnlbnadjolfjpaa.LW
