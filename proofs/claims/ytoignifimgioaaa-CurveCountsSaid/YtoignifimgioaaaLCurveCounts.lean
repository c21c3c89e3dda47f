/- The law CurveCounts: how many spots there are is the reference's count, or the code. -/
import Derived.Test.YtoignifimgioaaaCrt
set_option linter.unusedVariables false
namespace Go.Proofs.Ytoignifimgioaaa.LW
open Go.RowKit
set_option maxHeartbeats 1000000 in
theorem CurveCounts (P A B : Int) (w : World) (wP : (Lit.int .i64 P).wf = true) (wA : (Lit.int .i64 A).wf = true) (wB : (Lit.int .i64 B).wf = true) :
    Calls Try.prog 7 #[.agg #[.int .i64 P, .int .i64 A, .int .i64 B]] w fun e w' => e = .returned (.bool true) ∧ Below w.heap.size w w' := by
  have CK := fun w => ref_CurveCheck P A B w
  by_cases h : Lw.crvE P A B = 0
  · have N := Lib.hid (fun w => curve_Count_ok P A B w h)
    have M := Lib.hid (fun w => ref_SpotCount P A B w h)
    rw [h] at CK
    replace CK := Lib.hid CK
    clear h
    go_enter Try.func7, Try.ntmps7
    go_wp2_with (first | (go_at_call 25; (with_reducible refine (N.out _).mono ?_); rintro e w1 ⟨rfl, hb1⟩; obtain ⟨hc1, hf1⟩ := Lw.bcell hb1; have hz1 := hb1.size; (try simp at hz1); have hy1_00 : w.heap.size < w1.heap.size := (by omega); have hy1_01 : w.heap.size < w1.heap.size + 1 := (by omega); have hy1_02 : w.heap.size < w1.heap.size + 1 + 1 := (by omega)) | (go_at_call 19; (with_reducible refine (CK.out _).mono ?_); rintro e w2 ⟨rfl, hb2⟩; obtain ⟨hc2, hf2⟩ := Lw.bcell hb2; have hz2 := hb2.size; (try simp at hz2); have hy2_00 : w.heap.size < w2.heap.size := (by omega); have hy2_01 : w.heap.size < w2.heap.size + 1 := (by omega); have hy2_02 : w.heap.size < w2.heap.size + 1 + 1 := (by omega)) | (go_at_call 26; (with_reducible refine (M.out _).mono ?_); rintro e w3 ⟨rfl, hb3⟩))
    go_ret
    exact ⟨by simp, by (repeat (first | exact Below.refl _ _ | refine Lw.bt ?_ (by assumption) | refine Lw.balloc ?_ _ | refine Lw.bdrewN ?_ _ | refine Below.drew ?_ | refine Lw.bset ?_ (by first | (simp; done) | (simp; omega) | omega) _))⟩
  · have N := fun w => curve_Count_bad P A B w h
    have h1 : (Lw.crvE P A B == 0) = false := by simpa using h
    obtain ⟨E, hE⟩ : ∃ E, Lw.crvE P A B = E := ⟨_, rfl⟩
    rw [hE] at N CK h1
    replace N := Lib.hid N
    replace CK := Lib.hid CK
    clear h hE
    go_enter Try.func7, Try.ntmps7
    go_wp2_with (first | (go_at_call 25; (with_reducible refine (N.out _).mono ?_); rintro e w1 ⟨rfl, hb1⟩; obtain ⟨hc1, hf1⟩ := Lw.bcell hb1; have hz1 := hb1.size; (try simp at hz1); have hy1_00 : w.heap.size < w1.heap.size := (by omega); have hy1_01 : w.heap.size < w1.heap.size + 1 := (by omega); have hy1_02 : w.heap.size < w1.heap.size + 1 + 1 := (by omega)) | (go_at_call 19; (with_reducible refine (CK.out _).mono ?_); rintro e w3 ⟨rfl, hb3⟩))
    go_ret
    exact ⟨by simp, by (repeat (first | exact Below.refl _ _ | refine Lw.bt ?_ (by assumption) | refine Lw.balloc ?_ _ | refine Lw.bdrewN ?_ _ | refine Below.drew ?_ | refine Lw.bset ?_ (by first | (simp; done) | (simp; omega) | omega) _))⟩
end Go.Proofs.Ytoignifimgioaaa.LW
