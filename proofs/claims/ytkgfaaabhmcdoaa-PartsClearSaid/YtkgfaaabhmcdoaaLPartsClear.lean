/- The law PartsClear: what the gates are worth is the reference's, or the code. -/
import Derived.Test.YtkgfaaabhmcdoaaGaw
import Derived.Test.YtkgfaaabhmcdoaaPla
import Derived.Test.YtkgfaaabhmcdoaaRow
set_option linter.unusedVariables false
namespace Go.Proofs.Ytkgfaaabhmcdoaa.LW
open Go.RowKit
set_option maxHeartbeats 1000000 in
theorem PartsClear (p : Int) (A : Option Addr) (n c : Nat) (B : Option Addr) (m d : Nat) (ys : List Int) (w : World) (wp : (Lit.int .i64 p).wf = true) (h : Lw.IsSl w [Lw.IsI .i64, Lw.IsI .i64, Lw.IsI .i64, Lw.IsI .i64] A n c) (h2 : Lw.IsRow .i64 w B m d ys) :
    Calls Try.prog 7 #[.int .i64 p, .slice A n c, .slice B m d] w fun e w' => e = .returned (.bool true) ∧ Below w.heap.size w w' := by
  obtain ⟨gs, RA⟩ := h.gates
  obtain ⟨RB, _, _, _, _⟩ := h2.rd
  generalize ys.take m = ins at RB
  clear h h2 wp
  have T := Lib.hid (fun W (h : Below w.heap.size w W) => ref_GatesCheck p A n c gs B m d ins W (RA.below (Nat.le_refl w.heap.size) h) (RB.below (Nat.le_refl w.heap.size) h))
  by_cases h0 : Lw.clrE p gs ins = 0
  · have la : gs.length = n := by have := RA.1; rw [Lw.gatesV_length] at this; omega
    have n60 := (Lw.clr_zero h0).2.1
    have X := Lib.hid (parts_Clear p A n c gs B m d ins w RA RB h0)
    have Y := Lib.hid (fun W (h : Below w.heap.size w W) => ref_Clear p A n c gs B m d ins W (RA.below (Nat.le_refl w.heap.size) h) (RB.below (Nat.le_refl w.heap.size) h) h0)
    rw [h0] at T
    generalize Lw.clrL p ins gs n = L at *
    rw [la] at n60
    clear RA RB h0 la
    go_enter Try.func7, Try.ntmps7
    go_wp2_with fail
    refine X.out.mono ?_
    intro e w1 hX
    obtain ⟨C, g, rfl, R1, hb1⟩ := hX
    have R1 := Lib.hid R1
    go_wp2_with fail
    refine (T.out _ hb1).mono ?_
    rintro e w2 ⟨rfl, hb2⟩
    go_wp2_with fail
    refine (Y.out _ (Lw.bt hb1 hb2)).mono ?_
    intro e w3 hY
    obtain ⟨C', g', rfl, R2, hb3⟩ := hY
    have LG := Lib.hid (ref_Longs n g g' C C' _ w3 (R1.out.below (Nat.le_refl _) (Lw.bt hb2 hb3)) R2 (by omega))
    clear R1 R2
    go_wp2_with fail
    refine LG.out.mono ?_
    rintro e w' ⟨rfl, dd, rfl⟩
    go_wp2_with fail
    go_ret
    exact ⟨by simp, Lw.bdrewN (Lw.bt (Lw.bt hb1 hb2) hb3) _⟩
  · have X := Lib.hid (parts_Clear_bad p A n c gs B m d ins w RA RB h0)
    have z : (Lw.clrE p gs ins != 0) = true := by simpa using h0
    have z' : (Lw.clrE p gs ins == 0) = false := by simpa using h0
    generalize Lw.clrE p gs ins = E at *
    clear RA RB h0
    go_enter Try.func7, Try.ntmps7
    go_wp2_with fail
    refine X.out.mono ?_
    rintro e w1 ⟨rfl, hb1⟩
    go_wp2_with fail
    refine (T.out _ hb1).mono ?_
    rintro e w2 ⟨rfl, hb2⟩
    go_wp2_with fail
    go_ret
    exact ⟨by simp, Lw.bt hb1 hb2⟩
end Go.Proofs.Ytkgfaaabhmcdoaa.LW
