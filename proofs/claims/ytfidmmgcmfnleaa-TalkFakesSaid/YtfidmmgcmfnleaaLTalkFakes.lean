/- The law TalkFakes: talk.Feign's talk is right by the reference, or the reference's code. -/
import Derived.Test.YtfidmmgcmfnleaaTalk3
set_option linter.unusedVariables false
namespace Go.Proofs.Ytfidmmgcmfnleaa.LW
open Go.RowKit
theorem saidCheck' (P Q G H y E : Int) (L : List (Int × Int × Int)) (hE : Lw.askE P Q G H (Lw.pwsOf L) (y :: Lw.fstsOf L) = E) (A : Option Addr) (n c : Nat) (w : World) (R : Lw.Rd w 3 A n (Lw.tripsV L)) (hm : n ≤ 1048576) :
    Calls Try.prog 10 #[.agg #[.int .i64 P, .int .i64 Q, .int .i64 G, .int .i64 H], .int .i64 y, .slice A n c] w fun e w' => e = .returned (.int .i64 E) ∧ Below w.heap.size w w' := hE ▸ law_saidCheck P Q G H y A n c L w R hm
set_option maxHeartbeats 2000000 in
theorem TalkFakes_bad (P Q G H y k a : Int) (w : World) (h : ¬ Lw.askE P Q G H (Lw.pwsOf [(1, k, a)]) (y :: Lw.fstsOf [(1, k, a)]) = 0) :
    Calls Try.prog 3 #[.agg #[.int .i64 P, .int .i64 Q, .int .i64 G, .int .i64 H], .int .i64 y, .int .i64 k, .int .i64 a] w fun e w' => e = .returned (.bool true) ∧ Below w.heap.size w w' := by
  obtain ⟨E, hE⟩ : ∃ E, Lw.askE P Q G H (Lw.pwsOf [(1, k, a)]) (y :: Lw.fstsOf [(1, k, a)]) = E := ⟨_, rfl⟩
  have HE := Lib.hid hE
  have hn : (E != 0) = true := by rw [← hE]; simpa using h
  clear h hE
  go_enter Try.func3, Try.ntmps3
  go_wp2_with (first | (go_at_call 9; (with_reducible refine (talk_Feign_bad P Q G H y k a E _ HE.out hn).mono ?_); rintro e w1 ⟨rfl, hb1⟩; obtain ⟨hc1, hf1⟩ := Lw.bcell hb1; have hz1 := hb1.size; (try simp at hz1); have hy1_00 : w.heap.size < w1.heap.size := (by omega); have hy1_01 : w.heap.size < w1.heap.size + 1 := (by omega); have hy1_02 : w.heap.size < w1.heap.size + 1 + 1 := (by omega)) | (go_at_call 10; refine (saidCheck' P Q G H y _ [(1, k, a)] HE.out _ _ _ _ (by first | exact Lw.Rd.nil _ _ _ | exact Lw.Rd.lit (Lw.blk_new' (by simp) _ _) rfl rfl | exact Lw.Rd.lit (Lw.blk_alloc (Lw.blk_new' (by simp) _ _) _) rfl rfl) (by omega)).mono ?_; rintro e w2 ⟨rfl, hb2⟩; obtain ⟨hc2, hf2⟩ := Lw.bcell hb2; have hz2 := hb2.size; simp at hz2))
  go_ret
  exact ⟨by simp, by (repeat (first | exact Below.refl _ _ | refine Lw.bt ?_ (by assumption) | refine Lw.balloc ?_ _ | refine Lw.bdrewN ?_ _ | refine Below.drew ?_ | refine Lw.bset ?_ (by first | (simp; done) | (simp; omega) | omega) _))⟩
set_option maxHeartbeats 2000000 in
theorem TalkFakes_ok (P Q G H y k a : Int) (w : World) (h : Lw.askE P Q G H (Lw.pwsOf [(1, k, a)]) (y :: Lw.fstsOf [(1, k, a)]) = 0) :
    Calls Try.prog 3 #[.agg #[.int .i64 P, .int .i64 Q, .int .i64 G, .int .i64 H], .int .i64 y, .int .i64 k, .int .i64 a] w fun e w' => e = .returned (.bool true) ∧ Below w.heap.size w w' := by
  have HE := Lib.hid h
  obtain ⟨f1, f2⟩ := Lw.feign_ok h
  obtain ⟨e1, k1, k2, a1, a2, m1, m2⟩ := Lw.said_facts h
  obtain ⟨h1, h2, h3, h4, _⟩ := Lw.grp_facts e1
  have C := fun (w : World) => talk_Feign_ok P Q G H y k a w h
  obtain ⟨F, hF⟩ : ∃ F, Lw.pw G a P * Lw.pw y (Q - k) P % P = F := ⟨_, rfl⟩
  rw [hF] at f1 f2 C
  obtain ⟨b1, b2, _⟩ := Lw.memB_bd f1
  have C := Lib.hid C
  have F1 := Lib.hid f1
  have F2 := Lib.hid f2
  clear h e1 m1 m2 f1 f2 hF
  go_enter Try.func3, Try.ntmps3
  go_wp2_with (first | (go_at_call 9; (with_reducible refine (C.out _).mono ?_); rintro e w1 ⟨rfl, hb1⟩; obtain ⟨hc1, hf1⟩ := Lw.bcell hb1; have hz1 := hb1.size; (try simp at hz1); have hy1_00 : w.heap.size < w1.heap.size := (by omega); have hy1_01 : w.heap.size < w1.heap.size + 1 := (by omega); have hy1_02 : w.heap.size < w1.heap.size + 1 + 1 := (by omega)) | (go_at_call 10; refine (saidCheck' P Q G H y _ [(1, k, a)] HE.out _ _ _ _ (by first | exact Lw.Rd.nil _ _ _ | exact Lw.Rd.lit (Lw.blk_new' (by simp) _ _) rfl rfl | exact Lw.Rd.lit (Lw.blk_alloc (Lw.blk_new' (by simp) _ _) _) rfl rfl) (by omega)).mono ?_; rintro e w2 ⟨rfl, hb2⟩; obtain ⟨hc2, hf2⟩ := Lw.bcell hb2; have hz2 := hb2.size; simp at hz2; have hy2_00 : w.heap.size < w2.heap.size := (by omega); have hy2_10 : w1.heap.size < w2.heap.size := (by omega)) | (go_at_call 11; (with_reducible refine (F1.out ▸ ref_Member P Q G H F _ h1 h2 (by omega) (by omega)).mono ?_); rintro e w3 ⟨rfl, hb3⟩; obtain ⟨hc3, hf3⟩ := Lw.bcell hb3; have hz3 := hb3.size; (try simp at hz3); have hy3_00 : w.heap.size < w3.heap.size := (by omega); have hy3_10 : w1.heap.size < w3.heap.size := (by omega)) | (go_at_call 12; (with_reducible refine (F2.out ▸ ref_Right P Q G H y F k a _ h1 h2 k1 (by omega) a1 (by omega) (by omega) (by omega)).mono ?_); rintro e w4 ⟨rfl, hb4⟩))
  go_ret
  exact ⟨by simp, by (repeat (first | exact Below.refl _ _ | refine Lw.bt ?_ (by assumption) | refine Lw.balloc ?_ _ | refine Lw.bdrewN ?_ _ | refine Below.drew ?_ | refine Lw.bset ?_ (by first | (simp; done) | (simp; omega) | omega) _))⟩
theorem TalkFakes (P Q G H y k a : Int) (w : World) (wP : (Lit.int .i64 P).wf = true) (wQ : (Lit.int .i64 Q).wf = true) (wG : (Lit.int .i64 G).wf = true) (wH : (Lit.int .i64 H).wf = true) (wy : (Lit.int .i64 y).wf = true) (wk : (Lit.int .i64 k).wf = true) (wa : (Lit.int .i64 a).wf = true) :
    Calls Try.prog 3 #[.agg #[.int .i64 P, .int .i64 Q, .int .i64 G, .int .i64 H], .int .i64 y, .int .i64 k, .int .i64 a] w fun e w' => e = .returned (.bool true) ∧ Below w.heap.size w w' := by
  by_cases h : Lw.askE P Q G H (Lw.pwsOf [(1, k, a)]) (y :: Lw.fstsOf [(1, k, a)]) = 0
  · exact TalkFakes_ok P Q G H y k a w h
  · exact TalkFakes_bad P Q G H y k a w h
end Go.Proofs.Ytfidmmgcmfnleaa.LW
