/- The law TalkSpeaks: talk.Speak is the talk of the reference's power, or the reference's code. -/
import Derived.Test.YtendeagfgpdedaaTalk
import Derived.Laws.StructEq
set_option linter.unusedVariables false
namespace Go.Proofs.Ytendeagfgpdedaa.LW
open Go.RowKit
set_option maxHeartbeats 2000000 in
theorem TalkSpeaks (P Q G H a k c : Int) (w : World) (wP : (Lit.int .i64 P).wf = true) (wQ : (Lit.int .i64 Q).wf = true) (wG : (Lit.int .i64 G).wf = true) (wH : (Lit.int .i64 H).wf = true) (wa : (Lit.int .i64 a).wf = true) (wk : (Lit.int .i64 k).wf = true) (wc : (Lit.int .i64 c).wf = true) :
    Calls Try.prog 13 #[.agg #[.int .i64 P, .int .i64 Q, .int .i64 G, .int .i64 H], .int .i64 a, .int .i64 k, .int .i64 c] w fun e w' => e = .returned (.bool true) ∧ Below w.heap.size w w' := by
  clear wP wQ wG wH wa wk wc
  by_cases h : Lw.askE P Q G H [a, k, c] [] = 0
  · obtain ⟨e1, e2, _⟩ := Lw.askE_ok h
    obtain ⟨h1, h2, h3, h4, _⟩ := Lw.grp_facts e1
    obtain ⟨a1, a2, e3⟩ := Lw.psB_cons e2
    obtain ⟨k1, k2, e4⟩ := Lw.psB_cons e3
    obtain ⟨c1, c2, _⟩ := Lw.psB_cons e4
    obtain ⟨q1, q2⟩ := Lw.mul_bd' c a 1048576 c1 (by omega) a1 (by omega)
    have HE := Lib.hid h
    clear h e1 e2 e3 e4
    go_enter Try.func13, Try.ntmps13
    go_wp2_with (first | (go_at_call 30; (with_reducible refine (talk_Speak_ok P Q G H a k c _ HE.out).mono ?_); rintro e w1 ⟨rfl, hb1⟩; obtain ⟨hc1, hf1⟩ := Lw.bcell hb1; have hz1 := hb1.size; (try simp at hz1); have hy1_00 : w.heap.size < w1.heap.size := (by omega); have hy1_01 : w.heap.size < w1.heap.size + 1 := (by omega); have hy1_02 : w.heap.size < w1.heap.size + 1 + 1 := (by omega)) | (go_at_call 18; refine (ref_GroupAsk' P Q G H _ [a, k, c] [] HE.out _ _ _ _ _ _ _ (by first | exact Lw.Rd.nil _ _ _ | exact Lw.Rd.lit (Lw.blk_new' (by simp) _ _) rfl rfl | exact Lw.Rd.lit (Lw.blk_alloc (Lw.blk_new' (by simp) _ _) _) rfl rfl) (by first | exact Lw.Rd.nil _ _ _ | exact Lw.Rd.lit (Lw.blk_new' (by simp) _ _) rfl rfl | exact Lw.Rd.lit (Lw.blk_alloc (Lw.blk_new' (by simp) _ _) _) rfl rfl) (Lw.max_of (by omega)) (Lw.max_of (by omega))).mono ?_; rintro e w2 ⟨rfl, hb2⟩; obtain ⟨hc2, hf2⟩ := Lw.bcell hb2; have hz2 := hb2.size; (try simp at hz2); have hy2_00 : w.heap.size < w2.heap.size := (by omega); have hy2_01 : w.heap.size < w2.heap.size + 1 := (by omega); have hy2_02 : w.heap.size < w2.heap.size + 1 + 1 := (by omega); have hy2_10 : w.heap.size + 1 < w2.heap.size := (by omega); have hy2_11 : w.heap.size + 1 < w2.heap.size + 1 := (by omega); have hy2_12 : w.heap.size + 1 < w2.heap.size + 1 + 1 := (by omega)))
    have W1 : IntKind.i64.wrap (c * a) = c * a := IntWalk.i64_in _ (by omega)
    have W2 : IntKind.i64.wrap (k + c * a) = k + c * a := IntWalk.i64_in _ (by omega)
    have W3 : (k + c * a).tmod Q = (k + c * a) % Q := Int.tmod_eq_emod_of_nonneg (by omega)
    have hP0 : ¬ P = 0 := by omega
    have hQ0 : ¬ Q = 0 := by omega
    go_quiet ((go_at_call 19; exact Lw.quiet (ref_Pow _ _ _ _ _ (Nat.le_refl _) (by omega) (by omega) (by omega) (by omega))))
    go_wp2
    go_ret
    exact ⟨by simp, by (repeat (first | exact Below.refl _ _ | refine Lw.bt ?_ (by assumption) | refine Lw.balloc ?_ _ | refine Lw.bdrewN ?_ _ | refine Below.drew ?_ | refine Lw.bset ?_ (by first | (simp; done) | (simp; omega) | omega) _))⟩
  · obtain ⟨E, hE⟩ : ∃ E, Lw.askE P Q G H [a, k, c] [] = E := ⟨_, rfl⟩
    have hn : (E != 0) = true := by rw [← hE]; simpa using h
    have HE := Lib.hid hE
    clear h hE
    go_enter Try.func13, Try.ntmps13
    go_wp2_with (first | (go_at_call 30; (with_reducible refine (talk_Speak_bad P Q G H a k c E _ HE.out hn).mono ?_); rintro e w1 ⟨rfl, hb1⟩; obtain ⟨hc1, hf1⟩ := Lw.bcell hb1; have hz1 := hb1.size; (try simp at hz1); have hy1_00 : w.heap.size < w1.heap.size := (by omega); have hy1_01 : w.heap.size < w1.heap.size + 1 := (by omega); have hy1_02 : w.heap.size < w1.heap.size + 1 + 1 := (by omega)) | (go_at_call 18; refine (ref_GroupAsk' P Q G H _ [a, k, c] [] HE.out _ _ _ _ _ _ _ (by first | exact Lw.Rd.nil _ _ _ | exact Lw.Rd.lit (Lw.blk_new' (by simp) _ _) rfl rfl | exact Lw.Rd.lit (Lw.blk_alloc (Lw.blk_new' (by simp) _ _) _) rfl rfl) (by first | exact Lw.Rd.nil _ _ _ | exact Lw.Rd.lit (Lw.blk_new' (by simp) _ _) rfl rfl | exact Lw.Rd.lit (Lw.blk_alloc (Lw.blk_new' (by simp) _ _) _) rfl rfl) (Lw.max_of (by omega)) (Lw.max_of (by omega))).mono ?_; rintro e w2 ⟨rfl, hb2⟩; obtain ⟨hc2, hf2⟩ := Lw.bcell hb2; have hz2 := hb2.size; (try simp at hz2); have hy2_00 : w.heap.size < w2.heap.size := (by omega); have hy2_01 : w.heap.size < w2.heap.size + 1 := (by omega); have hy2_02 : w.heap.size < w2.heap.size + 1 + 1 := (by omega); have hy2_10 : w.heap.size + 1 < w2.heap.size := (by omega); have hy2_11 : w.heap.size + 1 < w2.heap.size + 1 := (by omega); have hy2_12 : w.heap.size + 1 < w2.heap.size + 1 + 1 := (by omega)))
    go_ret
    exact ⟨by simp, by (repeat (first | exact Below.refl _ _ | refine Lw.bt ?_ (by assumption) | refine Lw.balloc ?_ _ | refine Lw.bdrewN ?_ _ | refine Below.drew ?_ | refine Lw.bset ?_ (by first | (simp; done) | (simp; omega) | omega) _))⟩
end Go.Proofs.Ytendeagfgpdedaa.LW
