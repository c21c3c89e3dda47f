/- The law FieldMuls: a product of elements is the reference's, or the code. -/
import Derived.Test.YtdofonjbnacmkaaFde
import Derived.Test.YtdofonjbnacmkaaRow
set_option linter.unusedVariables false
namespace Go.Proofs.Ytdofonjbnacmkaa.LW
open Go.RowKit
set_option maxHeartbeats 1000000 in
theorem FieldMuls (p : Int) (A : Option Addr) (n c : Nat) (xs : List Int) (a b : Int) (w : World) (wp : (Lit.int .i64 p).wf = true) (h : Lw.IsRow .i64 w A n c xs) (wa : (Lit.int .i64 a).wf = true) (wb : (Lit.int .i64 b).wf = true) :
    Calls Try.prog 12 #[.int .i64 p, .slice A n c, .int .i64 a, .int .i64 b] w fun e w' => e = .returned (.bool true) ∧ Below w.heap.size w w' := by
  obtain ⟨RA, _, _, _, _⟩ := h.rd
  generalize xs.take n = f at RA
  clear h wp wa wb
  have la : f.length = n := by have := RA.1; simpa [Lw.intsV] using this
  have EA := Lib.hid (fun W (h : Below w.heap.size w W) => law_element p A n c f a W (RA.below (Nat.le_refl w.heap.size) h))
  have EB := Lib.hid (fun W (h : Below w.heap.size w W) => law_element p A n c f b W (RA.below (Nat.le_refl w.heap.size) h))
  have FI := Lib.hid (fun w => law_first (Lw.elmE p f a) (Lw.elmE p f b) w)
  have ARM : True := trivial
  by_cases h : Lw.fldE p f = 0
  · by_cases h2 : Lw.elB (p ^ (n - 1)) [a, b] = true
    · have X := Lib.hid (field_Mul_ok p A n c f a b w RA h h2)
      obtain ⟨⟨a0, a1⟩, b0, b1⟩ := Lw.elB_two.1 h2
      obtain ⟨g1, g2, g3, g4, g5⟩ := Lw.of_fld h
      obtain ⟨p1, p2, pp, _⟩ := Lw.poly_facts g1
      have g4' : p ^ (n - 1) ≤ 4096 := by rw [← la]; exact g4
      have Y := Lib.hid (fun W (h : Below w.heap.size w W) => ref_FieldMul p A n c f a b W (RA.below (Nat.le_refl w.heap.size) h) p1 p2 pp (Lw.good_of g1) (by omega) g4' a0 (by omega) b0 (by omega))
      have e1 := Lw.elm_in (a := a) h a0 (by rw [la]; exact a1)
      have e2 := Lw.elm_in (a := b) h b0 (by rw [la]; exact b1)
      rw [e1] at EA FI
      rw [e2] at EB FI
      have f0 : Lw.firstI 0 0 = 0 := rfl
      rw [f0] at FI
      generalize Lw.mulF p f a b = V at *
      clear h h2 g1 g2 g3 g4 g4' g5 e1 e2 RA la a1 b1 pp
      go_enter Try.func12, Try.ntmps12
      go_wp2_with fail
      refine X.out.mono ?_
      rintro e w1 ⟨rfl, hb1⟩
      go_wp2_with fail
      refine (EA.out _ hb1).mono ?_
      rintro e w2 ⟨rfl, hb2⟩
      go_wp2_with fail
      refine (EB.out _ (Lw.bt hb1 hb2)).mono ?_
      rintro e w3 ⟨rfl, hb3⟩
      go_wp2_with fail
      refine (FI.out _).mono ?_
      rintro e w' ⟨rfl, rfl⟩
      go_wp2_with fail
      refine (Y.out _ (Lw.bt (Lw.bt hb1 hb2) hb3)).mono ?_
      rintro e w4 ⟨rfl, hb4⟩
      go_wp2_with fail
      go_ret
      exact ⟨by simp, Lw.bt (Lw.bt (Lw.bt hb1 hb2) hb3) hb4⟩
    · have X := Lib.hid (field_Mul_out p A n c f a b w RA h h2)
      have e3 : Lw.firstI (Lw.elmE p f a) (Lw.elmE p f b) = 2 := by
        by_cases ha : 0 ≤ a ∧ a < p ^ (f.length - 1)
        · have e1 := Lw.elm_in (a := a) h ha.1 ha.2
          have e2 := Lw.elm_out (a := b) h (fun hb => h2 (Lw.elB_two.2 (by rw [la] at ha hb; exact ⟨ha, hb⟩)))
          rw [e1, e2]; rfl
        · rw [Lw.elm_out (a := a) h ha, Lw.firstI_ne _ _ (by decide)]
      rw [e3] at FI
      generalize Lw.elmE p f a = E1 at *
      generalize Lw.elmE p f b = E2 at *
      clear h h2 e3 RA la
      go_enter Try.func12, Try.ntmps12
      go_wp2_with fail
      refine X.out.mono ?_
      rintro e w1 ⟨rfl, hb1⟩
      go_wp2_with fail
      refine (EA.out _ hb1).mono ?_
      rintro e w2 ⟨rfl, hb2⟩
      go_wp2_with fail
      refine (EB.out _ (Lw.bt hb1 hb2)).mono ?_
      rintro e w3 ⟨rfl, hb3⟩
      go_wp2_with fail
      refine (FI.out _).mono ?_
      rintro e w' ⟨rfl, rfl⟩
      go_wp2_with fail
      go_ret
      exact ⟨by simp, Lw.bt (Lw.bt hb1 hb2) hb3⟩
  · have X := Lib.hid (field_Mul_bad p A n c f a b w RA h)
    rw [Lw.elm_bad h] at EA FI
    rw [Lw.elm_bad h] at EB FI
    rw [Lw.firstI_ne _ _ h] at FI
    have z : (Lw.fldE p f != 0) = true := by simpa using h
    have z' : (Lw.fldE p f == 0) = false := by simpa using h
    generalize Lw.fldE p f = E at *
    clear h RA la
    go_enter Try.func12, Try.ntmps12
    go_wp2_with fail
    refine X.out.mono ?_
    rintro e w1 ⟨rfl, hb1⟩
    go_wp2_with fail
    refine (EA.out _ hb1).mono ?_
    rintro e w2 ⟨rfl, hb2⟩
    go_wp2_with fail
    refine (EB.out _ (Lw.bt hb1 hb2)).mono ?_
    rintro e w3 ⟨rfl, hb3⟩
    go_wp2_with fail
    refine (FI.out _).mono ?_
    rintro e w' ⟨rfl, rfl⟩
    go_wp2_with fail
    go_ret
    exact ⟨by simp, Lw.bt (Lw.bt hb1 hb2) hb3⟩
end Go.Proofs.Ytdofonjbnacmkaa.LW
