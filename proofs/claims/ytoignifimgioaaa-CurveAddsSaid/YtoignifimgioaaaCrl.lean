/- The statements' spot: the code of a curve and a spot. -/
import Derived.Test.YtoignifimgioaaaCry
set_option linter.unusedVariables false
set_option linter.unusedSimpArgs false
namespace Go.Proofs.Ytoignifimgioaaa
open Go.RowKit
set_option maxHeartbeats 1000000 in
theorem law_spot (P A B X Y : Int) (F : Bool) (w : World) :
    Calls Try.prog 23 #[.agg #[.int .i64 P, .int .i64 A, .int .i64 B], .agg #[.int .i64 X, .int .i64 Y, .bool F]] w fun e w' => e = .returned (.int .i64 (Lw.oneE P A B ⟨X, Y, F⟩)) ∧ Below w.heap.size w w' := by
  have CK := fun w => ref_CurveCheck P A B w
  by_cases hc : Lw.crvE P A B = 0
  · have SP := fun w => ref_Spot P A B X Y F w (Lw.of_crv hc).1
    rw [hc] at CK
    replace CK := Lib.hid CK
    rcases hs : Lw.spotB P A B X Y F with _ | _
    · have E := Lib.hid (Lw.one_form (s := ⟨X, Y, F⟩) hc hs)
      rw [hs] at SP
      replace SP := Lib.hid SP
      clear hc hs
      go_enter Try.func23, Try.ntmps23
      go_wp2_with (first | (go_at_call 19; (with_reducible refine (CK.out _).mono ?_); rintro e w1 ⟨rfl, hb1⟩; obtain ⟨hc1, hf1⟩ := Lw.bcell hb1; have hz1 := hb1.size; (try simp at hz1); have hy1_00 : w.heap.size < w1.heap.size := (by omega); have hy1_01 : w.heap.size < w1.heap.size + 1 := (by omega); have hy1_02 : w.heap.size < w1.heap.size + 1 + 1 := (by omega); have hy1_10 : w.heap.size + 1 < w1.heap.size := (by omega); have hy1_11 : w.heap.size + 1 < w1.heap.size + 1 := (by omega); have hy1_12 : w.heap.size + 1 < w1.heap.size + 1 + 1 := (by omega)) | (go_at_call 52; (with_reducible refine (SP.out _).mono ?_); rintro e w2 ⟨rfl, hb2⟩))
      go_ret
      exact ⟨by rw [E.out]; rfl, by (repeat (first | exact Below.refl _ _ | refine Lw.bt ?_ (by assumption) | refine Lw.balloc ?_ _ | refine Lw.bdrewN ?_ _ | refine Below.drew ?_ | refine Lw.bset ?_ (by first | (simp; done) | (simp; omega) | omega) _))⟩
    · have E := Lib.hid (Lw.one_ok (s := ⟨X, Y, F⟩) hc hs)
      rw [hs] at SP
      replace SP := Lib.hid SP
      clear hc hs
      go_enter Try.func23, Try.ntmps23
      go_wp2_with (first | (go_at_call 19; (with_reducible refine (CK.out _).mono ?_); rintro e w1 ⟨rfl, hb1⟩; obtain ⟨hc1, hf1⟩ := Lw.bcell hb1; have hz1 := hb1.size; (try simp at hz1); have hy1_00 : w.heap.size < w1.heap.size := (by omega); have hy1_01 : w.heap.size < w1.heap.size + 1 := (by omega); have hy1_02 : w.heap.size < w1.heap.size + 1 + 1 := (by omega); have hy1_10 : w.heap.size + 1 < w1.heap.size := (by omega); have hy1_11 : w.heap.size + 1 < w1.heap.size + 1 := (by omega); have hy1_12 : w.heap.size + 1 < w1.heap.size + 1 + 1 := (by omega)) | (go_at_call 52; (with_reducible refine (SP.out _).mono ?_); rintro e w2 ⟨rfl, hb2⟩))
      go_ret
      exact ⟨by rw [E.out]; rfl, by (repeat (first | exact Below.refl _ _ | refine Lw.bt ?_ (by assumption) | refine Lw.balloc ?_ _ | refine Lw.bdrewN ?_ _ | refine Below.drew ?_ | refine Lw.bset ?_ (by first | (simp; done) | (simp; omega) | omega) _))⟩
  · have E := Lib.hid (Lw.one_bad (s := ⟨X, Y, F⟩) hc)
    have h1 : (Lw.crvE P A B == 0) = false := by simpa using hc
    replace CK := Lib.hid CK
    clear hc
    go_enter Try.func23, Try.ntmps23
    go_wp2_with (go_at_call 19; (with_reducible refine (CK.out _).mono ?_); rintro e w1 ⟨rfl, hb1⟩; obtain ⟨hc1, hf1⟩ := Lw.bcell hb1; have hz1 := hb1.size; (try simp at hz1); have hy1_00 : w.heap.size < w1.heap.size := (by omega); have hy1_01 : w.heap.size < w1.heap.size + 1 := (by omega); have hy1_02 : w.heap.size < w1.heap.size + 1 + 1 := (by omega); have hy1_10 : w.heap.size + 1 < w1.heap.size := (by omega); have hy1_11 : w.heap.size + 1 < w1.heap.size + 1 := (by omega); have hy1_12 : w.heap.size + 1 < w1.heap.size + 1 + 1 := (by omega))
    go_ret
    exact ⟨by rw [E.out]; rfl, by (repeat (first | exact Below.refl _ _ | refine Lw.bt ?_ (by assumption) | refine Lw.balloc ?_ _ | refine Lw.bdrewN ?_ _ | refine Below.drew ?_ | refine Lw.bset ?_ (by first | (simp; done) | (simp; omega) | omega) _))⟩
end Go.Proofs.Ytoignifimgioaaa
