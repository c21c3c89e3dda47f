/- The law CommitTells: commit.Commit is the product of the reference's powers, or the reference's code. -/
import Derived.Test.YtendeagfgpdedaaCom
set_option linter.unusedVariables false
namespace Go.Proofs.Ytendeagfgpdedaa.LW
open Go.RowKit
set_option maxHeartbeats 1000000 in
theorem CommitTells (P Q G H m r : Int) (w : World) (wP : (Lit.int .i64 P).wf = true) (wQ : (Lit.int .i64 Q).wf = true) (wG : (Lit.int .i64 G).wf = true) (wH : (Lit.int .i64 H).wf = true) (wm : (Lit.int .i64 m).wf = true) (wr : (Lit.int .i64 r).wf = true) :
    Calls Try.prog 10 #[.agg #[.int .i64 P, .int .i64 Q, .int .i64 G, .int .i64 H], .int .i64 m, .int .i64 r] w fun e w' => e = .returned (.bool true) ∧ Below w.heap.size w w' := by
  clear wP wQ wG wH wm wr
  by_cases h : Lw.askE P Q G H [m, r] [] = 0
  · obtain ⟨e1, e2, e3⟩ := Lw.askE_ok h
    obtain ⟨h1, h2, h3, h4, h5, h6, h7, h8, _⟩ := Lw.grp_facts e1
    obtain ⟨p1, p2, e4⟩ := Lw.psB_cons e2
    obtain ⟨r1, r2, _⟩ := Lw.psB_cons e4
    have HE := Lib.hid h
    clear h e1 e2 e3 e4
    go_enter Try.func10, Try.ntmps10
    go_wp2_with (first | (go_at_call 26; (with_reducible refine (commit_Commit_ok P Q G H m r _ HE.out).mono ?_); rintro e w1 ⟨rfl, hb1⟩; obtain ⟨hc1, hf1⟩ := Lw.bcell hb1; have hz1 := hb1.size; (try simp at hz1); have hy1_00 : w.heap.size < w1.heap.size := (by omega); have hy1_01 : w.heap.size < w1.heap.size + 1 := (by omega); have hy1_02 : w.heap.size < w1.heap.size + 1 + 1 := (by omega)) | (go_at_call 18; refine (ref_GroupAsk' P Q G H _ [m, r] [] HE.out _ _ _ _ _ _ _ (by first | exact Lw.Rd.nil _ _ _ | exact Lw.Rd.lit (Lw.blk_new' (by simp) _ _) rfl rfl | exact Lw.Rd.lit (Lw.blk_alloc (Lw.blk_new' (by simp) _ _) _) rfl rfl) (by first | exact Lw.Rd.nil _ _ _ | exact Lw.Rd.lit (Lw.blk_new' (by simp) _ _) rfl rfl | exact Lw.Rd.lit (Lw.blk_alloc (Lw.blk_new' (by simp) _ _) _) rfl rfl) (Lw.max_of (by omega)) (Lw.max_of (by omega))).mono ?_; rintro e w2 ⟨rfl, hb2⟩; obtain ⟨hc2, hf2⟩ := Lw.bcell hb2; have hz2 := hb2.size; (try simp at hz2); have hy2_00 : w.heap.size < w2.heap.size := (by omega); have hy2_01 : w.heap.size < w2.heap.size + 1 := (by omega); have hy2_02 : w.heap.size < w2.heap.size + 1 + 1 := (by omega)) | (go_at_call 27; (with_reducible refine (law_bound P Q G H m r _ h1 h2 p1 (by omega) r1 (by omega)).mono ?_); rintro e w3 ⟨rfl, hb3⟩; obtain ⟨hc3, hf3⟩ := Lw.bcell hb3; have hz3 := hb3.size; (try simp at hz3); have hy3_00 : w.heap.size < w3.heap.size := (by omega); have hy3_01 : w.heap.size < w3.heap.size + 1 := (by omega); have hy3_02 : w.heap.size < w3.heap.size + 1 + 1 := (by omega)))
    go_ret
    exact ⟨by simp, by (repeat (first | exact Below.refl _ _ | refine Lw.bt ?_ (by assumption) | refine Lw.balloc ?_ _ | refine Lw.bdrewN ?_ _ | refine Below.drew ?_ | refine Lw.bset ?_ (by first | (simp; done) | (simp; omega) | omega) _))⟩
  · obtain ⟨E, hE⟩ : ∃ E, Lw.askE P Q G H [m, r] [] = E := ⟨_, rfl⟩
    have hn : (E != 0) = true := by rw [← hE]; simpa using h
    have HE := Lib.hid hE
    clear h hE
    go_enter Try.func10, Try.ntmps10
    go_wp2_with (first | (go_at_call 26; (with_reducible refine (commit_Commit_bad P Q G H m r E _ HE.out hn).mono ?_); rintro e w1 ⟨rfl, hb1⟩; obtain ⟨hc1, hf1⟩ := Lw.bcell hb1; have hz1 := hb1.size; (try simp at hz1); have hy1_00 : w.heap.size < w1.heap.size := (by omega); have hy1_01 : w.heap.size < w1.heap.size + 1 := (by omega); have hy1_02 : w.heap.size < w1.heap.size + 1 + 1 := (by omega)) | (go_at_call 18; refine (ref_GroupAsk' P Q G H _ [m, r] [] HE.out _ _ _ _ _ _ _ (by first | exact Lw.Rd.nil _ _ _ | exact Lw.Rd.lit (Lw.blk_new' (by simp) _ _) rfl rfl | exact Lw.Rd.lit (Lw.blk_alloc (Lw.blk_new' (by simp) _ _) _) rfl rfl) (by first | exact Lw.Rd.nil _ _ _ | exact Lw.Rd.lit (Lw.blk_new' (by simp) _ _) rfl rfl | exact Lw.Rd.lit (Lw.blk_alloc (Lw.blk_new' (by simp) _ _) _) rfl rfl) (Lw.max_of (by omega)) (Lw.max_of (by omega))).mono ?_; rintro e w2 ⟨rfl, hb2⟩; obtain ⟨hc2, hf2⟩ := Lw.bcell hb2; have hz2 := hb2.size; (try simp at hz2); have hy2_00 : w.heap.size < w2.heap.size := (by omega); have hy2_01 : w.heap.size < w2.heap.size + 1 := (by omega); have hy2_02 : w.heap.size < w2.heap.size + 1 + 1 := (by omega)))
    go_ret
    exact ⟨by simp, by (repeat (first | exact Below.refl _ _ | refine Lw.bt ?_ (by assumption) | refine Lw.balloc ?_ _ | refine Lw.bdrewN ?_ _ | refine Below.drew ?_ | refine Lw.bset ?_ (by first | (simp; done) | (simp; omega) | omega) _))⟩
end Go.Proofs.Ytendeagfgpdedaa.LW
