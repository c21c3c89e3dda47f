/- The law PolyGcds: what divides both is the reference's, or the code. -/
import Derived.Test.YtdofonjbnacmkaaPlg
import Derived.Test.YtdofonjbnacmkaaRow
set_option linter.unusedVariables false
namespace Go.Proofs.Ytdofonjbnacmkaa.LW
open Go.RowKit
set_option maxHeartbeats 1000000 in
theorem PolyGcds (p : Int) (A : Option Addr) (n c : Nat) (xs : List Int) (B : Option Addr) (m d : Nat) (ys : List Int) (w : World) (wp : (Lit.int .i64 p).wf = true) (h : Lw.IsRow .i64 w A n c xs) (h2 : Lw.IsRow .i64 w B m d ys) :
    Calls Try.prog 9 #[.int .i64 p, .slice A n c, .slice B m d] w fun e w' => e = .returned (.bool true) ∧ Below w.heap.size w w' := by
  obtain ⟨RA, _, _, _, _⟩ := h.rd
  obtain ⟨RB, _, _, _, _⟩ := h2.rd
  generalize xs.take n = a at RA
  generalize ys.take m = b at RB
  clear h h2 wp
  have T := Lib.hid (fun W (h : Below w.heap.size w W) => law_two p A B n c m d a b W (RA.below (Nat.le_refl w.heap.size) h) (RB.below (Nat.le_refl w.heap.size) h))
  by_cases h0 : Lw.firstI (Lw.polyE p a) (Lw.polyE p b) = 0
  · have ha : Lw.polyE p a = 0 := by
      by_cases h1 : Lw.polyE p a = 0
      · exact h1
      · rw [Lw.firstI_ne _ _ h1] at h0; exact h0
    have hb : Lw.polyE p b = 0 := by rw [ha, Lw.firstI_zero] at h0; exact h0
    have X := Lib.hid (poly_Gcd_ok p A B n c m d a b w RA RB ha hb)
    obtain ⟨p1, p2, pp, l1, b1, _⟩ := Lw.poly_facts ha
    have GA := Lw.good_of ha
    have GB := Lw.good_of hb
    have RF := Lib.hid (fun W (h : Below w.heap.size w W) D (G : Lw.GcdR p a b D) => ref_PolyGcd p p1 p2 pp G A B n c m d W (RA.below (Nat.le_refl w.heap.size) h) (RB.below (Nat.le_refl w.heap.size) h) GA GB)
    rw [h0] at T
    clear RA RB h0 ha hb b1 GA GB l1
    go_enter Try.func9, Try.ntmps9
    go_wp2_with fail
    refine X.out.mono ?_
    rintro e w1 ⟨D, C, k, g, G, rfl, R1, k13, hb1⟩
    have RFF := Lib.hid (RF.out _ hb1 D G)
    generalize Lw.finL p D = out at *
    go_wp2_with fail
    refine (T.out _ hb1).mono ?_
    rintro e w' ⟨rfl, rfl⟩
    go_wp2_with fail
    refine RFF.out.mono ?_
    rintro e w2 ⟨C', k', g', rfl, R2, hg', hb2⟩
    have hkk : k' = k := by have h1 := R1.1; have h2 := R2.1; omega
    subst hkk
    have LG := Lib.hid (ref_Longs k' g g' C C' _ w2 (R1.below (Nat.le_refl _) hb2) R2 (by omega))
    clear R1 R2
    go_wp2_with (go_at_call 23; (with_reducible refine LG.out.mono ?_); rintro e w' ⟨rfl, dd, rfl⟩)
    go_ret
    exact ⟨by simp, Lw.bdrewN (Lw.bt hb1 hb2) _⟩
  · have X := Lib.hid (poly_Gcd_bad p A B n c m d a b w RA RB h0)
    have h1 : (Lw.firstI (Lw.polyE p a) (Lw.polyE p b) == 0) = false := by simpa using h0
    generalize Lw.firstI (Lw.polyE p a) (Lw.polyE p b) = f at *
    clear RA RB h0
    go_enter Try.func9, Try.ntmps9
    go_wp2_with (first | (go_at_call 32; (with_reducible refine (X.out).mono ?_); rintro e w1 ⟨rfl, hb1⟩) | (go_at_call 22; (with_reducible refine (T.out _ hb1).mono ?_); rintro e w2 ⟨rfl, rfl⟩))
    go_ret
    exact ⟨by simp, hb1⟩
end Go.Proofs.Ytdofonjbnacmkaa.LW
