/- The law RsaUnlocks: what rsa.Open returns is the reference's power, or the error of keyCheck. -/
import Derived.Test.YtbmoceabbdppeaaRsa
set_option linter.unusedVariables false
namespace Go.Proofs.Ytbmoceabbdppeaa.LW
open Go.RowKit
set_option maxHeartbeats 1000000 in
theorem RsaUnlocks (n e d x : Int) (w : World) (wn : (Lit.int .i64 n).wf = true) (we : (Lit.int .i64 e).wf = true) (wd : (Lit.int .i64 d).wf = true) (wx : (Lit.int .i64 x).wf = true) :
    Calls Try.prog 6 #[.agg #[.int .i64 n, .int .i64 e, .int .i64 d], .int .i64 x] w fun r w' => r = .returned (.bool true) ∧ Below w.heap.size w w' := by
  clear wn we wd wx
  have hc : (Lw.keyI n e d x = 2) ∨ (Lw.keyI n e d x = 0 ∧ 1 ≤ n ∧ n ≤ 1048576 ∧ 1 ≤ e ∧ e ≤ 2147483648 ∧ 1 ≤ d ∧ d ≤ 2147483648 ∧ 0 ≤ x ∧ x < n) := by unfold Lw.keyI; split <;> omega
  rcases hc with h | ⟨h, h1, h2, h3, h4, h5, h6, h7, h8⟩
  · have ht := (Lw.turnI_bad (y := d) h.symm).symm
    go_enter Try.func6, Try.ntmps6
    go_wp2_with (first | (go_at_call 46; refine (rsa_turn _ _ _ _ _ _ (by omega)).mono ?_; rintro e w1 ⟨rfl, hb1⟩; obtain ⟨hc1, hf1⟩ := Lw.bcell hb1; have hz1_1 : w.heap.size < w1.heap.size := by have := hb1.size; (try simp at this); omega) | (go_at_call 23; refine (law_keyCheck _ _ _ _ _).mono ?_; rintro e w2 ⟨rfl, hb2⟩; obtain ⟨hc2, hf2⟩ := Lw.bcell hb2; have hz2_1 : w.heap.size < w2.heap.size := by have := hb2.size; (try simp at this); omega) | go_in)
    go_ret
    exact ⟨rfl, Lw.bt (Lw.bt (by go_grown) hb1) hb2⟩
  · have ht := (Lw.turnI_ok (y := d) h.symm).symm
    go_enter Try.func6, Try.ntmps6
    go_wp2_with (first | (go_at_call 46; refine (rsa_turn _ _ _ _ _ _ (by omega)).mono ?_; rintro e w1 ⟨rfl, hb1⟩; obtain ⟨hc1, hf1⟩ := Lw.bcell hb1; have hz1_1 : w.heap.size < w1.heap.size := by have := hb1.size; (try simp at this); omega) | (go_at_call 23; refine (law_keyCheck _ _ _ _ _).mono ?_; rintro e w2 ⟨rfl, hb2⟩; obtain ⟨hc2, hf2⟩ := Lw.bcell hb2; have hz2_1 : w.heap.size < w2.heap.size := by have := hb2.size; (try simp at this); omega) | (go_at_call 21; refine (ref_Pow _ _ _ _ _ (Nat.le_refl _) (by omega) (by omega) (by omega) (by omega)).mono ?_; rintro e w' ⟨rfl, rfl⟩) | go_in)
    go_ret
    exact ⟨by simp, Lw.bt (Lw.bt (by go_grown) hb1) hb2⟩
end Go.Proofs.Ytbmoceabbdppeaa.LW
