/- The law FieldBases: the least element whose powers are all is the reference's, or the code. -/
import Derived.Test.YtjhjppaabmbbbaaFbs
import Derived.Test.YtjhjppaabmbbbaaRow
set_option linter.unusedVariables false
namespace Go.Proofs.Ytjhjppaabmbbbaa.LW
open Go.RowKit
set_option maxHeartbeats 1000000 in
theorem FieldBases (p : Int) (A : Option Addr) (n c : Nat) (xs : List Int) (w : World) (wp : (Lit.int .i64 p).wf = true) (h : Lw.IsRow .i64 w A n c xs) :
    Calls Try.prog 14 #[.int .i64 p, .slice A n c] w fun e w' => e = .returned (.bool true) ∧ Below w.heap.size w w' := by
  obtain ⟨RA, _, _, _, _⟩ := h.rd
  generalize xs.take n = f at RA
  clear h wp
  have CK := fun W (h : Below w.heap.size w W) => ref_FieldCheck p A n c f W (RA.below (Nat.le_refl w.heap.size) h)
  by_cases h : Lw.fldE p f = 0
  · have F := Lw.fld_of h
    obtain ⟨b, hb⟩ := Lw.ex_least F
    have X := Lib.hid (field_Base_ok p A n c f F b hb w RA h)
    have Y := Lib.hid (fun W (h : Below w.heap.size w W) => ref_FieldBase p A n c f F b hb W (RA.below (Nat.le_refl w.heap.size) h))
    rw [h] at CK
    replace CK := Lib.hid CK
    clear h RA hb F
    go_enter Try.func14, Try.ntmps14
    go_wp2_with fail
    refine X.out.mono ?_
    rintro e w1 ⟨rfl, hb1⟩
    go_wp2_with fail
    refine (CK.out _ hb1).mono ?_
    rintro e w2 ⟨rfl, hb2⟩
    go_wp2_with fail
    refine (Y.out _ (Lw.bt hb1 hb2)).mono ?_
    rintro e w3 ⟨rfl, hb3⟩
    go_wp2_with fail
    go_ret
    exact ⟨by simp, Lw.bt (Lw.bt hb1 hb2) hb3⟩
  · have X := Lib.hid (field_Base_bad p A n c f w RA h)
    have z : (Lw.fldE p f != 0) = true := by simpa using h
    have z' : (Lw.fldE p f == 0) = false := by simpa using h
    replace CK := Lib.hid CK
    generalize Lw.fldE p f = E at *
    clear h RA
    go_enter Try.func14, Try.ntmps14
    go_wp2_with fail
    refine X.out.mono ?_
    rintro e w1 ⟨rfl, hb1⟩
    go_wp2_with fail
    refine (CK.out _ hb1).mono ?_
    rintro e w2 ⟨rfl, hb2⟩
    go_wp2_with fail
    go_ret
    exact ⟨by simp, Lw.bt hb1 hb2⟩
end Go.Proofs.Ytjhjppaabmbbbaa.LW
