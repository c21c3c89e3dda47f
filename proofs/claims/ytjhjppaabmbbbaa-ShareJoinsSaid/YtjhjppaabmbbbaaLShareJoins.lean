/- The law ShareJoins: what points have in common at 0 is what the reference says, or the code. -/
import Derived.Test.YtjhjppaabmbbbaaShu
import Derived.Test.YtjhjppaabmbbbaaShv
import Derived.Test.YtjhjppaabmbbbaaOpen
set_option linter.unusedVariables false
namespace Go.Proofs.Ytjhjppaabmbbbaa.LW
open Go.RowKit
set_option maxHeartbeats 1000000 in
theorem ShareJoins (p : Int) (U : Option Addr) (n c : Nat) (w : World) (wp : (Lit.int .i64 p).wf = true) (h : Lw.IsSl w [Lw.IsI .i64, Lw.IsI .i64] U n c) :
    Calls Try.prog 11 #[.int .i64 p, .slice U n c] w fun e w' => e = .returned (.bool true) ∧ Below w.heap.size w w' := by
  obtain ⟨L0, h1, h2, R⟩ := h.list (by simp)
  obtain ⟨L, hL, hw⟩ := Lw.list2 h2
  have e : L0.flatten = Lw.pairsV .i64 .i64 L := by rw [hL]; unfold Lw.pairsV; rw [List.flatMap_def]
  rw [e] at R
  have R : Lw.Rd w 2 U n (Lw.pairsV .i64 .i64 L) := R
  clear h h1 h2 hL e wp
  have hw : ∀ r ∈ L, (Lit.int .i64 r.1).wf = true := fun r hr => (hw r hr).1
  have T := fun W (hb : Below w.heap.size w W) => ref_JoinCheck p U n c L W (R.below (Nat.le_refl w.heap.size) hb)
  have X := Lib.hid (share_Join p U n c L w R hw)
  by_cases h0 : Lw.joinE p L = 0
  · obtain ⟨h3, h4⟩ := Lw.join_0 h0
    obtain ⟨hp, h13, hLo⟩ := Lw.pts_ok h3
    obtain ⟨p1, p2, pp⟩ := Lw.ppr_ok hp
    have RF := fun W (hb : Below w.heap.size w W) => ref_Join p U n c L W (R.below (Nat.le_refl w.heap.size) hb) p1 p2 pp h13 hLo
    rw [← Lw.join_eq p1 p2 pp hLo] at RF
    replace RF := Lib.hid RF
    have H0 := Lib.hid h0
    rw [h0] at T
    replace T := Lib.hid T
    clear R h0 hw hp h13 hLo pp h3 h4
    generalize Lw.hornV p (Lw.nst p L L.length).1 0 = v at *
    generalize Lw.joinE p L = E at *
    go_enter Try.func11, Try.ntmps11
    go_wp2_with fail
    refine X.out.mono ?_
    rintro e w1 ⟨X1, _, hb1⟩
    replace X1 := X1 H0.out
    subst X1
    clear X
    go_wp2_with fail
    refine (T.out _ hb1).mono ?_
    rintro e w2 ⟨rfl, hb2⟩
    have hB2 := Lw.bt hb1 hb2
    go_wp2_with fail
    refine (RF.out _ hB2).mono ?_
    rintro e w3 ⟨rfl, hb3⟩
    go_wp2_with fail
    go_ret
    exact ⟨by simp, Lw.bt hB2 hb3⟩
  · have z : (Lw.joinE p L == 0) = false := by simpa using h0
    have z' : (Lw.joinE p L != 0) = true := by simpa using h0
    have H0 := Lib.hid h0
    replace T := Lib.hid T
    clear R h0 hw
    generalize Lw.joinE p L = E at *
    go_enter Try.func11, Try.ntmps11
    go_wp2_with fail
    refine X.out.mono ?_
    rintro e w1 ⟨_, X2, hb1⟩
    replace X2 := X2 H0.out
    subst X2
    clear X
    go_wp2_with fail
    refine (T.out _ hb1).mono ?_
    rintro e w2 ⟨rfl, hb2⟩
    go_wp2_with fail
    go_ret
    exact ⟨by simp, Lw.bt hb1 hb2⟩
end Go.Proofs.Ytjhjppaabmbbbaa.LW
