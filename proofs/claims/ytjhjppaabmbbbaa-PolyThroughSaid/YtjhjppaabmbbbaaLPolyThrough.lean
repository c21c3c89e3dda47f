/- The law PolyThrough: what goes through points is what the reference says, or the code. -/
import Derived.Test.YtjhjppaabmbbbaaPtr
import Derived.Test.YtjhjppaabmbbbaaPts
import Derived.Test.YtjhjppaabmbbbaaPla
import Derived.Test.YtjhjppaabmbbbaaOpen
set_option linter.unusedVariables false
namespace Go.Proofs.Ytjhjppaabmbbbaa.LW
open Go.RowKit
set_option maxHeartbeats 1000000 in
theorem PolyThrough (p : Int) (U : Option Addr) (n c : Nat) (w : World) (wp : (Lit.int .i64 p).wf = true) (h : Lw.IsSl w [Lw.IsI .i64, Lw.IsI .i64] U n c) :
    Calls Try.prog 10 #[.int .i64 p, .slice U n c] w fun e w' => e = .returned (.bool true) ∧ Below w.heap.size w w' := by
  obtain ⟨L0, h1, h2, R⟩ := h.list (by simp)
  obtain ⟨L, hL, hw⟩ := Lw.list2 h2
  have e : L0.flatten = Lw.pairsV .i64 .i64 L := by rw [hL]; unfold Lw.pairsV; rw [List.flatMap_def]
  rw [e] at R
  have R : Lw.Rd w 2 U n (Lw.pairsV .i64 .i64 L) := R
  clear h h1 h2 hL e wp
  have hw : ∀ r ∈ L, (Lit.int .i64 r.1).wf = true := fun r hr => (hw r hr).1
  have T := fun W (hb : Below w.heap.size w W) => ref_PointsCheck p U n c L W (R.below (Nat.le_refl w.heap.size) hb)
  by_cases h0 : Lw.ptsE p L = 0
  · have X := Lib.hid (poly_Through_ok p U n c L w R hw h0)
    have RF := fun W (hb : Below w.heap.size w W) => ref_Through p U n c L W (R.below (Nat.le_refl w.heap.size) hb) h0
    obtain ⟨hp, h13, hLo⟩ := Lw.pts_ok h0
    obtain ⟨p1, p2, pp⟩ := Lw.ppr_ok hp
    rw [← Lw.thr_eq p1 p2 pp hLo] at RF
    replace RF := Lib.hid RF
    have LO : Hid ((Lw.nst p L L.length).1.length ≤ 13) := Lib.hid (by have := (Lw.new_all p1 p2 pp hLo L.length (Nat.le_refl _)).2.2.1; omega)
    generalize (Lw.nst p L L.length).1 = a at *
    have LN : Hid (∀ C k W, Lw.Rd W 1 C k (Lw.intsV .i64 a) → a.length = k) := fun C k W h => by have := h.1; simpa [Lw.intsV] using this
    rw [h0] at T
    replace T := Lib.hid T
    clear R h0 hp h13 hLo pp
    go_enter Try.func10, Try.ntmps10
    go_wp2_with fail
    refine X.out.mono ?_
    rintro e w1 ⟨C, k, g, rfl, R1, hb1⟩
    go_wp2_with fail
    refine (T.out _ hb1).mono ?_
    rintro e w2 ⟨rfl, hb2⟩
    have hB2 := Lw.bt hb1 hb2
    go_wp2_with fail
    refine (RF.out _ hB2).mono ?_
    rintro e w3 ⟨C', k', g', rfl, R2, hg', hb3⟩
    have hkk : k' = k := by have h1 := LN.out _ _ _ R1; have h2 := LN.out _ _ _ R2; omega
    subst hkk
    have hk := LN.out _ _ _ R1
    have LG := Lib.hid (ref_Longs k' g g' C C' _ w3 (R1.below (Nat.le_refl _) (Lw.bt hb2 hb3)) R2 (by have := LO.out; omega))
    clear R1 R2 hk
    go_wp2_with (go_at_call 39; (with_reducible refine LG.out.mono ?_); rintro e w' ⟨rfl, dd, rfl⟩)
    go_ret
    exact ⟨by simp, Lw.bdrewN (Lw.bt hB2 hb3) _⟩
  · have X := Lib.hid (poly_Through_bad p U n c L w R hw h0)
    have h1 : (Lw.ptsE p L == 0) = false := by simpa using h0
    replace T := Lib.hid T
    generalize Lw.ptsE p L = f at *
    clear R h0 hw
    go_enter Try.func10, Try.ntmps10
    go_wp2_with fail
    refine X.out.mono ?_
    rintro e w1 ⟨rfl, hb1⟩
    go_wp2_with fail
    refine (T.out _ hb1).mono ?_
    rintro e w2 ⟨rfl, hb2⟩
    go_wp2_with fail
    go_ret
    exact ⟨by simp, Lw.bt hb1 hb2⟩
end Go.Proofs.Ytjhjppaabmbbbaa.LW
