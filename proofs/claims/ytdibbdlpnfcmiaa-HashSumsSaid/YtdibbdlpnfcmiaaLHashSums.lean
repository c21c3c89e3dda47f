/- The law HashSums: the program's sum of a text is the reference's, or the text is too long. -/
import Derived.Test.YtdibbdlpnfcmiaaBytes2
import Derived.Test.YtdibbdlpnfcmiaaRow
set_option linter.unusedVariables false
namespace Go.Proofs.Ytdibbdlpnfcmiaa.LW
open Go.RowKit
set_option maxHeartbeats 1000000 in
theorem HashSums (A : Option Addr) (n c : Nat) (zs : List Int) (w : World) (h : Lw.IsRow .u8 w A n c zs) :
    Calls Try.prog 3 #[.slice A n c] w fun e w' => e = .returned (.bool true) ∧ Below w.heap.size w w' := by
  obtain ⟨R, _, _, _, hw⟩ := h.rd
  have hy : Lw.Byt (zs.take n) := fun z hz => by have := bounds_u8 (hw z hz); omega
  generalize zs.take n = bs at R hy
  clear h hw
  by_cases hl : 4096 < n
  · have hl1 : (4096 : Int) < (n : Int) := by omega
    have R := Lib.hid R
    go_enter Try.func3, Try.ntmps3
    go_wp2
    go_ret
    exact ⟨by simp, Below.refl _ _⟩
  · have hl1 : ¬ (4096 : Int) < (n : Int) := by omega
    obtain ⟨s1, s2⟩ := Lw.hsum_bd bs
    have C1 := Lib.hid (fun w R => hash_Of A n c bs w R hy (by omega))
    have C2 := Lib.hid (fun w R => ref_Sum A n c bs w R hy (by omega))
    have R := Lib.hid R
    generalize Lw.hsum bs = s at *
    go_enter Try.func3, Try.ntmps3
    go_wp2_with (first | (go_at_call 35; (with_reducible refine (C1.out _ R.out).mono ?_); rintro e w1 ⟨rfl, hb1⟩) | (go_at_call 14; (with_reducible refine (C2.out _ (R.out.below (Nat.le_refl _) hb1)).mono ?_); rintro e w2 ⟨rfl, hb2⟩) | go_in)
    go_ret
    exact ⟨by simp, Lw.bt hb1 hb2⟩
end Go.Proofs.Ytdibbdlpnfcmiaa.LW
