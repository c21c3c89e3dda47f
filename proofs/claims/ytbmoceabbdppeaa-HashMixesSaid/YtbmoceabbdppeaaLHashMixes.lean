/- The law HashMixes: the program's step and the reference's step return the same number. -/
import Derived.Test.YtbmoceabbdppeaaHash
namespace Go.Proofs.Ytbmoceabbdppeaa.LW
open Go.RowKit
theorem HashMixes (a b : Int) (w : World) (wa : (Lit.int .u32 a).wf = true) (wb : (Lit.int .u8 b).wf = true) :
    Calls Try.prog 3 #[.int .u32 a, .int .u8 b] w fun e w' => e = .returned (.bool true) ∧ Below w.heap.size w w' := by
  obtain ⟨a1, a2⟩ := bounds_u32 wa
  obtain ⟨b1, b2⟩ := bounds_u8 wb
  obtain ⟨hx1, hx2⟩ := Lw.hstep_bd a b
  clear wa wb
  go_enter Try.func3, Try.ntmps3
  go_wp2_with fail
  refine (hash_step _ _ _ (by omega) (by omega) (by omega) (by omega)).mono ?_
  rintro e w' ⟨rfl, rfl⟩
  go_wp2_with fail
  refine (ref_step _ _ _ (by omega) (by omega) (by omega) (by omega)).mono ?_
  rintro e w' ⟨rfl, rfl⟩
  go_wp2_with fail
  go_ret
  exact ⟨by simp, Below.refl _ _⟩
end Go.Proofs.Ytbmoceabbdppeaa.LW
