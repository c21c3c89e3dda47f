/- The law FieldChecks: the codes are the same. -/
import Derived.Test.YtdofonjbnacmkaaFdo
import Derived.Test.YtdofonjbnacmkaaRow
set_option linter.unusedVariables false
namespace Go.Proofs.Ytdofonjbnacmkaa.LW
open Go.RowKit
theorem FieldChecks (p : Int) (A : Option Addr) (n c : Nat) (xs : List Int) (w : World) (wp : (Lit.int .i64 p).wf = true) (h : Lw.IsRow .i64 w A n c xs) :
    Calls Try.prog 10 #[.int .i64 p, .slice A n c] w fun e w' => e = .returned (.bool true) ∧ Below w.heap.size w w' := by
  obtain ⟨RA, _, _, _, _⟩ := h.rd
  generalize xs.take n = f at RA
  clear h wp
  have X := Lib.hid (field_Check p A n c f w RA)
  have Y := Lib.hid (fun W (h : Below w.heap.size w W) => ref_FieldCheck p A n c f W (RA.below (Nat.le_refl w.heap.size) h))
  generalize Lw.fldE p f = E at *
  clear RA
  go_enter Try.func10, Try.ntmps10
  go_wp2_with fail
  refine X.out.mono ?_
  rintro e w1 ⟨rfl, hb1⟩
  go_wp2_with fail
  refine (Y.out _ hb1).mono ?_
  rintro e w2 ⟨rfl, hb2⟩
  go_wp2_with fail
  go_ret
  exact ⟨by simp, Lw.bt hb1 hb2⟩
end Go.Proofs.Ytdofonjbnacmkaa.LW
