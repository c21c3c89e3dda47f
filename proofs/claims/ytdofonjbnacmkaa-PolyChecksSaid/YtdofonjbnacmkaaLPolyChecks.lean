/- The law PolyChecks: what is wrong with a polynomial is what the reference says. -/
import Derived.Test.YtdofonjbnacmkaaPly
import Derived.Test.YtdofonjbnacmkaaRow
set_option linter.unusedVariables false
namespace Go.Proofs.Ytdofonjbnacmkaa.LW
open Go.RowKit
theorem PolyChecks (p : Int) (A : Option Addr) (n c : Nat) (zs : List Int) (w : World) (wp : (Lit.int .i64 p).wf = true) (h : Lw.IsRow .i64 w A n c zs) :
    Calls Try.prog 3 #[.int .i64 p, .slice A n c] w fun e w' => e = .returned (.bool true) ∧ Below w.heap.size w w' := by
  obtain ⟨R, _, _, _, _⟩ := h.rd
  have X := Lib.hid (poly_Check p A n c _ w R)
  have Y := Lib.hid (fun W h => ref_PolyCheck p A n c _ W (R.below (Nat.le_refl w.heap.size) h))
  clear R h wp
  go_enter Try.func3, Try.ntmps3
  go_wp2_with (first | (go_at_call 15; (with_reducible refine (X.out).mono ?_); rintro e w1 ⟨rfl, hb1⟩) | (go_at_call 16; (with_reducible refine (Y.out _ hb1).mono ?_); rintro e w2 ⟨rfl, rfl⟩))
  go_ret
  exact ⟨by simp, hb1⟩
end Go.Proofs.Ytdofonjbnacmkaa.LW
