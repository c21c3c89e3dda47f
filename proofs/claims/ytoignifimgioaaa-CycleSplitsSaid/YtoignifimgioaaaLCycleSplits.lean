/- The law CycleSplits: the program's first common part is the reference's, or the code. -/
import Derived.Test.YtoignifimgioaaaCys
set_option linter.unusedVariables false
namespace Go.Proofs.Ytoignifimgioaaa.LW
open Go.RowKit
theorem CycleSplits_bad (c n x : Int) (w : World) (h : Lw.firstI (Lw.bothI c x) (Lw.modI n) ≠ 0) :
    Calls Try.prog 5 #[.int .i64 c, .int .i64 n, .int .i64 x] w fun e w' => e = .returned (.bool true) ∧ Below w.heap.size w w' := by
  have X := Lib.hid (fun w => cycle_Split_bad c n x w h)
  have E2 : Hid (Lw.firstI (Lw.bothI c x) (Lw.modI n) = 2) := by
    unfold Hid Lw.firstI Lw.bothI Lw.modI at *
    split at h <;> split at h <;> simp_all
  clear h
  go_enter Try.func5, Try.ntmps5
  go_wp2_with (first | (go_at_call 20; (with_reducible refine (X.out _).mono ?_); rintro e w1 ⟨rfl, hb1⟩) | (go_at_call 15; refine (law_both _ _ _).mono ?_; rintro e w' ⟨rfl, rfl⟩) | (go_at_call 16; refine (law_modulus _ _).mono ?_; rintro e w' ⟨rfl, rfl⟩) | (go_at_call 14; refine (law_first _ _ _).mono ?_; rw [E2.out]; rintro e w' ⟨rfl, rfl⟩))
  go_ret
  exact ⟨by simp, hb1⟩
theorem CycleSplits_one (c x : Int) (w : World) (hc : Lw.farB c = false) (hx : Lw.farB x = false) :
    Calls Try.prog 5 #[.int .i64 c, .int .i64 1, .int .i64 x] w fun e w' => e = .returned (.bool true) ∧ Below w.heap.size w w' := by
  have X := Lib.hid (fun w => cycle_Split_one c x w hc hx)
  have E2 : Hid (Lw.firstI (Lw.bothI c x) (Lw.modI 1) = 0) := by
    unfold Hid Lw.firstI Lw.bothI Lw.modI
    simp [hc, hx]
  clear hc hx
  go_enter Try.func5, Try.ntmps5
  go_wp2_with (first | (go_at_call 20; (with_reducible refine (X.out _).mono ?_); rintro e w1 ⟨rfl, hb1⟩) | (go_at_call 15; refine (law_both _ _ _).mono ?_; rintro e w' ⟨rfl, rfl⟩) | (go_at_call 16; refine (law_modulus _ _).mono ?_; rintro e w' ⟨rfl, rfl⟩) | (go_at_call 14; refine (law_first _ _ _).mono ?_; rw [E2.out]; rintro e w' ⟨rfl, rfl⟩))
  go_ret
  exact ⟨by simp, hb1⟩
theorem CycleSplits_ok (c n x : Int) (w : World) (hc : Lw.farB c = false) (hx : Lw.farB x = false) (h1 : 2 ≤ n) (h2 : n ≤ 1048576) :
    Calls Try.prog 5 #[.int .i64 c, .int .i64 n, .int .i64 x] w fun e w' => e = .returned (.bool true) ∧ Below w.heap.size w w' := by
  obtain ⟨t, t1, t2, hT, hN⟩ := Lw.ex_spl c x h1
  have X := Lib.hid (fun w => cycle_Split_ok c n x w hc hx h1 h2 t t1 t2 hT hN)
  have Y := Lib.hid (fun w => ref_CycleSplit c n x w h1 h2 t t1 t2 hT hN)
  have E2 : Hid (Lw.firstI (Lw.bothI c x) (Lw.modI n) = 0) := by
    unfold Hid Lw.firstI Lw.bothI Lw.modI
    rw [hc, hx, if_neg (by omega : ¬ (n < 1 ∨ 1048576 < n))]; simp
  have hn1 : (n == 1) = false := by simp; omega
  clear hc hx hT hN
  go_enter Try.func5, Try.ntmps5
  go_wp2_with (first | (go_at_call 20; (with_reducible refine (X.out _).mono ?_); rintro e w1 ⟨rfl, hb1⟩) | (go_at_call 15; refine (law_both _ _ _).mono ?_; rintro e w' ⟨rfl, rfl⟩) | (go_at_call 16; refine (law_modulus _ _).mono ?_; rintro e w' ⟨rfl, rfl⟩) | (go_at_call 14; refine (law_first _ _ _).mono ?_; rw [E2.out]; rintro e w' ⟨rfl, rfl⟩) | (go_at_call 21; (with_reducible refine (Y.out _).mono ?_); rintro e w2 ⟨rfl, d, rfl⟩))
  go_ret
  exact ⟨by simp, Lw.bdrewN hb1 _⟩
theorem CycleSplits (c n x : Int) (w : World) (wc : (Lit.int .i64 c).wf = true) (wn : (Lit.int .i64 n).wf = true) (wx : (Lit.int .i64 x).wf = true) :
    Calls Try.prog 5 #[.int .i64 c, .int .i64 n, .int .i64 x] w fun e w' => e = .returned (.bool true) ∧ Below w.heap.size w w' := by
  by_cases h : Lw.firstI (Lw.bothI c x) (Lw.modI n) = 0
  · obtain ⟨hc, hx, hn⟩ : Lw.farB c = false ∧ Lw.farB x = false ∧ 1 ≤ n ∧ n ≤ 1048576 := by
      unfold Lw.firstI Lw.bothI Lw.modI at h
      rcases hc : Lw.farB c with _ | _ <;> rcases hx : Lw.farB x with _ | _ <;> simp_all <;> omega
    by_cases h1 : n = 1
    · subst h1; exact CycleSplits_one c x w hc hx
    · exact CycleSplits_ok c n x w hc hx (by omega) (by omega)
  · exact CycleSplits_bad c n x w h
end Go.Proofs.Ytoignifimgioaaa.LW
