/- The law TalkChecks: talk.Check tells whether the reference finds the talk right, or the reference's code. -/
import Derived.Test.YtendeagfgpdedaaTalk2
set_option linter.unusedVariables false
namespace Go.Proofs.Ytendeagfgpdedaa.LW
open Go.RowKit
theorem saidCheck' (P Q G H y E : Int) (L : List (Int × Int × Int)) (hE : Lw.askE P Q G H (Lw.pwsOf L) (y :: Lw.fstsOf L) = E) (A : Option Addr) (n c : Nat) (w : World) (R : Lw.Rd w 3 A n (Lw.tripsV L)) (hm : n ≤ 1048576) :
    Calls Try.prog 32 #[.agg #[.int .i64 P, .int .i64 Q, .int .i64 G, .int .i64 H], .int .i64 y, .slice A n c] w fun e w' => e = .returned (.int .i64 E) ∧ Below w.heap.size w w' := hE ▸ law_saidCheck P Q G H y A n c L w R hm
set_option maxHeartbeats 2000000 in
theorem TalkChecks (P Q G H y F k a : Int) (w : World) (wP : (Lit.int .i64 P).wf = true) (wQ : (Lit.int .i64 Q).wf = true) (wG : (Lit.int .i64 G).wf = true) (wH : (Lit.int .i64 H).wf = true) (wy : (Lit.int .i64 y).wf = true) (wF : (Lit.int .i64 F).wf = true) (wk : (Lit.int .i64 k).wf = true) (wa : (Lit.int .i64 a).wf = true) :
    Calls Try.prog 14 #[.agg #[.int .i64 P, .int .i64 Q, .int .i64 G, .int .i64 H], .int .i64 y, .agg #[.int .i64 F, .int .i64 k, .int .i64 a]] w fun e w' => e = .returned (.bool true) ∧ Below w.heap.size w w' := by
  clear wP wQ wG wH wy wF wk wa
  obtain ⟨E, hE⟩ : ∃ E, Lw.askE P Q G H (Lw.pwsOf [(F, k, a)]) (y :: Lw.fstsOf [(F, k, a)]) = E := ⟨_, rfl⟩
  have HE := Lib.hid hE
  by_cases h : E = 0
  · subst h
    obtain ⟨e1, k1, k2, a1, a2, m1, m2⟩ := Lw.said_facts hE
    obtain ⟨h1, h2, h3, h4, _⟩ := Lw.grp_facts e1
    obtain ⟨f1, f2, _⟩ := Lw.memB_bd m2
    clear hE e1 m1 m2
    go_enter Try.func14, Try.ntmps14
    go_wp2_with (first | (go_at_call 31; (with_reducible refine (talk_Check_ok P Q G H y F k a _ HE.out).mono ?_); rintro e w1 ⟨rfl, hb1⟩; obtain ⟨hc1, hf1⟩ := Lw.bcell hb1; have hz1 := hb1.size; (try simp at hz1); have hy1_00 : w.heap.size < w1.heap.size := (by omega); have hy1_01 : w.heap.size < w1.heap.size + 1 := (by omega); have hy1_02 : w.heap.size < w1.heap.size + 1 + 1 := (by omega); have hy1_10 : w.heap.size + 1 < w1.heap.size := (by omega); have hy1_11 : w.heap.size + 1 < w1.heap.size + 1 := (by omega); have hy1_12 : w.heap.size + 1 < w1.heap.size + 1 + 1 := (by omega)) | (go_at_call 32; refine (saidCheck' P Q G H y _ [(F, k, a)] HE.out _ _ _ _ (by first | exact Lw.Rd.nil _ _ _ | exact Lw.Rd.lit (Lw.blk_new' (by simp) _ _) rfl rfl | exact Lw.Rd.lit (Lw.blk_alloc (Lw.blk_new' (by simp) _ _) _) rfl rfl) (by omega)).mono ?_; rintro e w2 ⟨rfl, hb2⟩; obtain ⟨hc2, hf2⟩ := Lw.bcell hb2; have hz2 := hb2.size; simp at hz2) | (go_at_call 33; (with_reducible refine (ref_Right P Q G H y F k a _ h1 h2 k1 (by omega) a1 (by omega) (by omega) (by omega)).mono ?_); rintro e w3 ⟨rfl, hb3⟩; obtain ⟨hc3, hf3⟩ := Lw.bcell hb3; have hz3 := hb3.size; (try simp at hz3); have hy3_00 : w.heap.size < w3.heap.size := (by omega); have hy3_01 : w.heap.size < w3.heap.size + 1 := (by omega); have hy3_02 : w.heap.size < w3.heap.size + 1 + 1 := (by omega)))
    go_ret
    exact ⟨by simp, by (repeat (first | exact Below.refl _ _ | refine Lw.bt ?_ (by assumption) | refine Lw.balloc ?_ _ | refine Lw.bdrewN ?_ _ | refine Below.drew ?_ | refine Lw.bset ?_ (by first | (simp; done) | (simp; omega) | omega) _))⟩
  · have hn : (E != 0) = true := by simpa using h
    clear h hE
    go_enter Try.func14, Try.ntmps14
    go_wp2_with (first | (go_at_call 31; (with_reducible refine (talk_Check_bad P Q G H y F k a E _ HE.out hn).mono ?_); rintro e w1 ⟨rfl, hb1⟩; obtain ⟨hc1, hf1⟩ := Lw.bcell hb1; have hz1 := hb1.size; (try simp at hz1); have hy1_00 : w.heap.size < w1.heap.size := (by omega); have hy1_01 : w.heap.size < w1.heap.size + 1 := (by omega); have hy1_02 : w.heap.size < w1.heap.size + 1 + 1 := (by omega); have hy1_10 : w.heap.size + 1 < w1.heap.size := (by omega); have hy1_11 : w.heap.size + 1 < w1.heap.size + 1 := (by omega); have hy1_12 : w.heap.size + 1 < w1.heap.size + 1 + 1 := (by omega)) | (go_at_call 32; refine (saidCheck' P Q G H y _ [(F, k, a)] HE.out _ _ _ _ (by first | exact Lw.Rd.nil _ _ _ | exact Lw.Rd.lit (Lw.blk_new' (by simp) _ _) rfl rfl | exact Lw.Rd.lit (Lw.blk_alloc (Lw.blk_new' (by simp) _ _) _) rfl rfl) (by omega)).mono ?_; rintro e w2 ⟨rfl, hb2⟩))
    go_ret
    exact ⟨by simp, by (repeat (first | exact Below.refl _ _ | refine Lw.bt ?_ (by assumption) | refine Lw.balloc ?_ _ | refine Lw.bdrewN ?_ _ | refine Below.drew ?_ | refine Lw.bset ?_ (by first | (simp; done) | (simp; omega) | omega) _))⟩
end Go.Proofs.Ytendeagfgpdedaa.LW
