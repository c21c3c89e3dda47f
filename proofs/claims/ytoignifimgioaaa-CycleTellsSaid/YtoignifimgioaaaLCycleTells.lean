/- The law CycleTells: when the numbers come round is what the reference says, or the code. -/
import Derived.Test.YtoignifimgioaaaCyr
set_option linter.unusedVariables false
namespace Go.Proofs.Ytoignifimgioaaa.LW
open Go.RowKit
theorem CycleTells_bad (c n x : Int) (w : World) (h : Lw.firstI (Lw.bothI c x) (Lw.modI n) ≠ 0) :
    Calls Try.prog 3 #[.int .i64 c, .int .i64 n, .int .i64 x] w fun e w' => e = .returned (.bool true) ∧ Below w.heap.size w w' := by
  have X := Lib.hid (fun w => cycle_Cycle_bad c n x w h)
  have E2 : Hid (Lw.firstI (Lw.bothI c x) (Lw.modI n) = 2) := by
    unfold Hid Lw.firstI Lw.bothI Lw.modI at *
    split at h <;> split at h <;> simp_all
  clear h
  go_enter Try.func3, Try.ntmps3
  go_wp2_with (first | (go_at_call 13; (with_reducible refine (X.out _).mono ?_); rintro e w1 ⟨rfl, hb1⟩) | (go_at_call 15; refine (law_both _ _ _).mono ?_; rintro e w' ⟨rfl, rfl⟩) | (go_at_call 16; refine (law_modulus _ _).mono ?_; rintro e w' ⟨rfl, rfl⟩) | (go_at_call 14; refine (law_first _ _ _).mono ?_; rw [E2.out]; rintro e w' ⟨rfl, rfl⟩))
  go_ret
  exact ⟨by simp, hb1⟩
theorem CycleTells_ok (c n x : Int) (w : World) (hc : Lw.farB c = false) (hx : Lw.farB x = false) (h1 : 1 ≤ n) (h2 : n ≤ 1048576) :
    Calls Try.prog 3 #[.int .i64 c, .int .i64 n, .int .i64 x] w fun e w' => e = .returned (.bool true) ∧ Below w.heap.size w w' := by
  obtain ⟨i, s, s1, s2, hR⟩ := Lw.ex_rnd c x h1
  have X := Lib.hid (fun w => cycle_Cycle_ok c n x w hc hx h1 h2 i s s1 s2 hR)
  have Y := Lib.hid (fun w => ref_Cycle c n x w h1 h2 i s s1 s2 hR)
  have E2 : Hid (Lw.firstI (Lw.bothI c x) (Lw.modI n) = 0) := by
    unfold Hid Lw.firstI Lw.bothI Lw.modI
    rw [hc, hx, if_neg (by omega : ¬ (n < 1 ∨ 1048576 < n))]; simp
  clear hc hx hR
  go_enter Try.func3, Try.ntmps3
  go_wp2_with (first | (go_at_call 13; (with_reducible refine (X.out _).mono ?_); rintro e w1 ⟨rfl, hb1⟩) | (go_at_call 15; refine (law_both _ _ _).mono ?_; rintro e w' ⟨rfl, rfl⟩) | (go_at_call 16; refine (law_modulus _ _).mono ?_; rintro e w' ⟨rfl, rfl⟩) | (go_at_call 14; refine (law_first _ _ _).mono ?_; rw [E2.out]; rintro e w' ⟨rfl, rfl⟩) | (go_at_call 17; (with_reducible refine (Y.out _).mono ?_); rintro e w2 ⟨rfl, hb2⟩))
  go_ret
  exact ⟨by simp, Lw.bt hb1 hb2⟩
theorem CycleTells (c n x : Int) (w : World) (wc : (Lit.int .i64 c).wf = true) (wn : (Lit.int .i64 n).wf = true) (wx : (Lit.int .i64 x).wf = true) :
    Calls Try.prog 3 #[.int .i64 c, .int .i64 n, .int .i64 x] w fun e w' => e = .returned (.bool true) ∧ Below w.heap.size w w' := by
  by_cases h : Lw.firstI (Lw.bothI c x) (Lw.modI n) = 0
  · obtain ⟨hc, hx, hn⟩ : Lw.farB c = false ∧ Lw.farB x = false ∧ 1 ≤ n ∧ n ≤ 1048576 := by
      unfold Lw.firstI Lw.bothI Lw.modI at h
      rcases hc : Lw.farB c with _ | _ <;> rcases hx : Lw.farB x with _ | _ <;> simp_all <;> omega
    exact CycleTells_ok c n x w hc hx hn.1 hn.2
  · exact CycleTells_bad c n x w h
end Go.Proofs.Ytoignifimgioaaa.LW
