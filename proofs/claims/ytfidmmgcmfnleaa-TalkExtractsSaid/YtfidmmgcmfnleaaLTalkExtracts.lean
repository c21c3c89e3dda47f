/- The law TalkExtracts: what talk.Extract returns is the secret, or the code. -/
import Derived.Test.YtfidmmgcmfnleaaTalk4
set_option linter.unusedVariables false
namespace Go.Proofs.Ytfidmmgcmfnleaa.LW
open Go.RowKit
theorem saidCheck'' (P Q G H y E : Int) (L : List (Int × Int × Int)) (hE : Lw.askE P Q G H (Lw.pwsOf L) (y :: Lw.fstsOf L) = E) (A : Option Addr) (n c : Nat) (w : World) (R : Lw.Rd w 3 A n (Lw.tripsV L)) (hm : n ≤ 1048576) :
    Calls Try.prog 10 #[.agg #[.int .i64 P, .int .i64 Q, .int .i64 G, .int .i64 H], .int .i64 y, .slice A n c] w fun e w' => e = .returned (.int .i64 E) ∧ Below w.heap.size w w' := hE ▸ law_saidCheck P Q G H y A n c L w R hm
set_option maxHeartbeats 2000000 in
theorem TalkExtracts_bad (P Q G H y F k a F' l b : Int) (w : World) (h : ¬ Lw.askE P Q G H (Lw.pwsOf [(F, k, a), (F', l, b)]) (y :: Lw.fstsOf [(F, k, a), (F', l, b)]) = 0) :
    Calls Try.prog 4 #[.agg #[.int .i64 P, .int .i64 Q, .int .i64 G, .int .i64 H], .int .i64 y, .agg #[.int .i64 F, .int .i64 k, .int .i64 a], .agg #[.int .i64 F', .int .i64 l, .int .i64 b]] w fun e w' => e = .returned (.bool true) ∧ Below w.heap.size w w' := by
  obtain ⟨E, hE⟩ : ∃ E, Lw.askE P Q G H (Lw.pwsOf [(F, k, a), (F', l, b)]) (y :: Lw.fstsOf [(F, k, a), (F', l, b)]) = E := ⟨_, rfl⟩
  have HE := Lib.hid hE
  have hn : (E != 0) = true := by rw [← hE]; simpa using h
  have hn2 : (E == 0) = false := by rw [← hE]; simpa using h
  clear h hE
  go_enter Try.func4, Try.ntmps4
  go_wp2_with (first | (go_at_call 13; (with_reducible refine (talk_Extract_bad P Q G H y F k a F' l b E _ HE.out hn).mono ?_); rintro e w1 ⟨rfl, hb1⟩; obtain ⟨hc1, hf1⟩ := Lw.bcell hb1; have hz1 := hb1.size; (try simp at hz1); have hy1_00 : w.heap.size < w1.heap.size := (by omega); have hy1_01 : w.heap.size < w1.heap.size + 1 := (by omega); have hy1_02 : w.heap.size < w1.heap.size + 1 + 1 := (by omega); have hy1_10 : w.heap.size + 1 < w1.heap.size := (by omega); have hy1_11 : w.heap.size + 1 < w1.heap.size + 1 := (by omega); have hy1_12 : w.heap.size + 1 < w1.heap.size + 1 + 1 := (by omega); have hy1_20 : w.heap.size + 1 + 1 < w1.heap.size := (by omega); have hy1_21 : w.heap.size + 1 + 1 < w1.heap.size + 1 := (by omega); have hy1_22 : w.heap.size + 1 + 1 < w1.heap.size + 1 + 1 := (by omega)) | (go_at_call 10; refine (saidCheck'' P Q G H y _ [(F, k, a), (F', l, b)] HE.out _ _ _ _ (by first | exact Lw.Rd.nil _ _ _ | exact Lw.Rd.lit (Lw.blk_new' (by simp) _ _) rfl rfl | exact Lw.Rd.lit (Lw.blk_alloc (Lw.blk_new' (by simp) _ _) _) rfl rfl) (by omega)).mono ?_; rintro e w2 ⟨rfl, hb2⟩; obtain ⟨hc2, hf2⟩ := Lw.bcell hb2; have hz2 := hb2.size; simp at hz2))
  go_ret
  exact ⟨by simp, by (repeat (first | exact Below.refl _ _ | refine Lw.bt ?_ (by assumption) | refine Lw.balloc ?_ _ | refine Lw.bdrewN ?_ _ | refine Below.drew ?_ | refine Lw.bset ?_ (by first | (simp; done) | (simp; omega) | omega) _))⟩
set_option maxHeartbeats 4000000 in
theorem TalkExtracts_arg (P Q G H y F k a F' l b : Int) (w : World) (hE : Lw.askE P Q G H (Lw.pwsOf [(F, k, a), (F', l, b)]) (y :: Lw.fstsOf [(F, k, a), (F', l, b)]) = 0) (hx : extB P G y F k a F' l b = true) :
    Calls Try.prog 4 #[.agg #[.int .i64 P, .int .i64 Q, .int .i64 G, .int .i64 H], .int .i64 y, .agg #[.int .i64 F, .int .i64 k, .int .i64 a], .agg #[.int .i64 F', .int .i64 l, .int .i64 b]] w fun e w' => e = .returned (.bool true) ∧ Below w.heap.size w w' := by
  have X := Lib.hid (fun (w : World) => talk_Extract_arg P Q G H y F k a F' l b w hE hx)
  obtain ⟨e1, k1, k2, a1, a2, l1, l2, b1, b2, m1, m2, m3⟩ := Lw.said_two hE
  obtain ⟨h1, h2, h3, h4, _⟩ := Lw.grp_facts e1
  obtain ⟨f1, f2, _⟩ := Lw.memB_bd m2
  obtain ⟨g1, g2, _⟩ := Lw.memB_bd m3
  have HE := Lib.hid hE
  have C := Lib.hid (fun (w : World) => ref_Right P Q G H y F k a w h1 h2 k1 (by omega) a1 (by omega) (by omega) (by omega))
  have D := Lib.hid (fun (w : World) => ref_Right P Q G H y F' l b w h1 h2 l1 (by omega) b1 (by omega) (by omega) (by omega))
  clear hE e1 m1 m2 m3
  rcases extB_split hx with r1 | ⟨r1, r2⟩ | ⟨r1, r2, r3⟩ | ⟨r1, r2, r3, r4⟩
  all_goals
    clear hx
    go_enter Try.func4, Try.ntmps4
    go_wp2_with (first | (go_at_call 13; (with_reducible refine (X.out _).mono ?_); rintro e w1 ⟨rfl, hb1⟩; obtain ⟨hc1, hf1⟩ := Lw.bcell hb1; have hz1 := hb1.size; (try simp at hz1); have hy1_00 : w.heap.size < w1.heap.size := (by omega); have hy1_01 : w.heap.size < w1.heap.size + 1 := (by omega); have hy1_02 : w.heap.size < w1.heap.size + 1 + 1 := (by omega); have hy1_10 : w.heap.size + 1 < w1.heap.size := (by omega); have hy1_11 : w.heap.size + 1 < w1.heap.size + 1 := (by omega); have hy1_12 : w.heap.size + 1 < w1.heap.size + 1 + 1 := (by omega); have hy1_20 : w.heap.size + 1 + 1 < w1.heap.size := (by omega); have hy1_21 : w.heap.size + 1 + 1 < w1.heap.size + 1 := (by omega); have hy1_22 : w.heap.size + 1 + 1 < w1.heap.size + 1 + 1 := (by omega)) | (go_at_call 10; refine (saidCheck'' P Q G H y _ [(F, k, a), (F', l, b)] HE.out _ _ _ _ (by first | exact Lw.Rd.nil _ _ _ | exact Lw.Rd.lit (Lw.blk_new' (by simp) _ _) rfl rfl | exact Lw.Rd.lit (Lw.blk_alloc (Lw.blk_new' (by simp) _ _) _) rfl rfl) (by omega)).mono ?_; rintro e w2 ⟨rfl, hb2⟩; obtain ⟨hc2, hf2⟩ := Lw.bcell hb2; have hz2 := hb2.size; simp at hz2; have hy2_00 : w.heap.size < w2.heap.size := (by omega); have hy2_01 : w.heap.size + 1 < w2.heap.size := (by omega); have hy2_02 : w.heap.size + 1 + 1 < w2.heap.size := (by omega); have hy2_10 : w.heap.size < w1.heap.size + 1 := (by omega); have hy2_11 : w.heap.size + 1 < w1.heap.size + 1 := (by omega); have hy2_12 : w.heap.size + 1 + 1 < w1.heap.size + 1 := (by omega)) | (go_at_call 12; (with_reducible refine (C.out _).mono ?_); rintro e w3 ⟨rfl, hb3⟩; obtain ⟨hc3, hf3⟩ := Lw.bcell hb3; have hz3 := hb3.size; (try simp at hz3); have hy3_00 : w.heap.size < w3.heap.size := (by omega); have hy3_01 : w.heap.size < w3.heap.size + 1 := (by omega); have hy3_02 : w.heap.size < w3.heap.size + 1 + 1 := (by omega); have hy3_10 : w.heap.size + 1 < w3.heap.size := (by omega); have hy3_11 : w.heap.size + 1 < w3.heap.size + 1 := (by omega); have hy3_12 : w.heap.size + 1 < w3.heap.size + 1 + 1 := (by omega); have hy3_20 : w.heap.size + 1 + 1 < w3.heap.size := (by omega); have hy3_21 : w.heap.size + 1 + 1 < w3.heap.size + 1 := (by omega); have hy3_22 : w.heap.size + 1 + 1 < w3.heap.size + 1 + 1 := (by omega)) | (go_at_call 12; (with_reducible refine (D.out _).mono ?_); rintro e w4 ⟨rfl, hb4⟩; obtain ⟨hc4, hf4⟩ := Lw.bcell hb4; have hz4 := hb4.size; (try simp at hz4); have hy4_00 : w.heap.size < w4.heap.size := (by omega); have hy4_01 : w.heap.size < w4.heap.size + 1 := (by omega); have hy4_02 : w.heap.size < w4.heap.size + 1 + 1 := (by omega); have hy4_10 : w.heap.size + 1 < w4.heap.size := (by omega); have hy4_11 : w.heap.size + 1 < w4.heap.size + 1 := (by omega); have hy4_12 : w.heap.size + 1 < w4.heap.size + 1 + 1 := (by omega); have hy4_20 : w.heap.size + 1 + 1 < w4.heap.size := (by omega); have hy4_21 : w.heap.size + 1 + 1 < w4.heap.size + 1 := (by omega); have hy4_22 : w.heap.size + 1 + 1 < w4.heap.size + 1 + 1 := (by omega)))
    go_ret
    exact ⟨by simp, by (repeat (first | exact Below.refl _ _ | refine Lw.bt ?_ (by assumption) | refine Lw.balloc ?_ _ | refine Lw.bdrewN ?_ _ | refine Below.drew ?_ | refine Lw.bset ?_ (by first | (simp; done) | (simp; omega) | omega) _))⟩
set_option maxHeartbeats 4000000 in
theorem TalkExtracts_ok (P Q G H y F k a F' l b : Int) (w : World) (hE : Lw.askE P Q G H (Lw.pwsOf [(F, k, a), (F', l, b)]) (y :: Lw.fstsOf [(F, k, a), (F', l, b)]) = 0) (hx : extB P G y F k a F' l b = false) :
    Calls Try.prog 4 #[.agg #[.int .i64 P, .int .i64 Q, .int .i64 G, .int .i64 H], .int .i64 y, .agg #[.int .i64 F, .int .i64 k, .int .i64 a], .agg #[.int .i64 F', .int .i64 l, .int .i64 b]] w fun e w' => e = .returned (.bool true) ∧ Below w.heap.size w w' := by
  obtain ⟨r1, r2, r3, r4⟩ := extB_no hx
  have hF : F = F' := by simpa using r3
  subst hF
  have hkl : ¬ k = l := by simpa using r4
  obtain ⟨hg, t1, t2, t3⟩ := Lw.extract_ok hE r1 r2 hkl
  have X := fun (w : World) => talk_Extract_ok P Q G H y F k a F l b w hE hx hg
  obtain ⟨t, ht⟩ : ∃ t, (a - b) % Q * Lw.invI ((k - l) % Q) Q % Q = t := ⟨_, rfl⟩
  rw [ht] at X t1 t2 t3
  have X := Lib.hid X
  clear ht
  obtain ⟨e1, k1, k2, a1, a2, l1, l2, b1, b2, m1, m2, m3⟩ := Lw.said_two hE
  obtain ⟨h1, h2, h3, h4, _⟩ := Lw.grp_facts e1
  obtain ⟨f1, f2, _⟩ := Lw.memB_bd m2
  have HE := Lib.hid hE
  have C := Lib.hid (fun (w : World) => ref_Right P Q G H y F k a w h1 h2 k1 (by omega) a1 (by omega) (by omega) (by omega))
  have D := Lib.hid (fun (w : World) => ref_Right P Q G H y F l b w h1 h2 l1 (by omega) b1 (by omega) (by omega) (by omega))
  have PW := fun (w : World) => ref_Pow t.toNat G t P w (Nat.le_refl _) (by omega) (by omega) (by omega) (by omega)
  rw [t3] at PW
  have PW := Lib.hid PW
  clear hE e1 m1 m2 m3 t3 hkl hg hx
  go_enter Try.func4, Try.ntmps4
  go_wp2_with (first | (go_at_call 13; (with_reducible refine (X.out _).mono ?_); rintro e w1 ⟨rfl, hb1⟩; obtain ⟨hc1, hf1⟩ := Lw.bcell hb1; have hz1 := hb1.size; (try simp at hz1); have hy1_00 : w.heap.size < w1.heap.size := (by omega); have hy1_01 : w.heap.size < w1.heap.size + 1 := (by omega); have hy1_02 : w.heap.size < w1.heap.size + 1 + 1 := (by omega); have hy1_10 : w.heap.size + 1 < w1.heap.size := (by omega); have hy1_11 : w.heap.size + 1 < w1.heap.size + 1 := (by omega); have hy1_12 : w.heap.size + 1 < w1.heap.size + 1 + 1 := (by omega); have hy1_20 : w.heap.size + 1 + 1 < w1.heap.size := (by omega); have hy1_21 : w.heap.size + 1 + 1 < w1.heap.size + 1 := (by omega); have hy1_22 : w.heap.size + 1 + 1 < w1.heap.size + 1 + 1 := (by omega)) | (go_at_call 10; refine (saidCheck'' P Q G H y _ [(F, k, a), (F, l, b)] HE.out _ _ _ _ (by first | exact Lw.Rd.nil _ _ _ | exact Lw.Rd.lit (Lw.blk_new' (by simp) _ _) rfl rfl | exact Lw.Rd.lit (Lw.blk_alloc (Lw.blk_new' (by simp) _ _) _) rfl rfl) (by omega)).mono ?_; rintro e w2 ⟨rfl, hb2⟩; obtain ⟨hc2, hf2⟩ := Lw.bcell hb2; have hz2 := hb2.size; simp at hz2; have hy2_00 : w.heap.size < w2.heap.size := (by omega); have hy2_01 : w.heap.size + 1 < w2.heap.size := (by omega); have hy2_02 : w.heap.size + 1 + 1 < w2.heap.size := (by omega); have hy2_10 : w.heap.size < w1.heap.size + 1 := (by omega); have hy2_11 : w.heap.size + 1 < w1.heap.size + 1 := (by omega); have hy2_12 : w.heap.size + 1 + 1 < w1.heap.size + 1 := (by omega)) | (go_at_call 12; (with_reducible refine (C.out _).mono ?_); rintro e w3 ⟨rfl, hb3⟩; obtain ⟨hc3, hf3⟩ := Lw.bcell hb3; have hz3 := hb3.size; (try simp at hz3); have hy3_00 : w.heap.size < w3.heap.size := (by omega); have hy3_01 : w.heap.size < w3.heap.size + 1 := (by omega); have hy3_02 : w.heap.size < w3.heap.size + 1 + 1 := (by omega); have hy3_10 : w.heap.size + 1 < w3.heap.size := (by omega); have hy3_11 : w.heap.size + 1 < w3.heap.size + 1 := (by omega); have hy3_12 : w.heap.size + 1 < w3.heap.size + 1 + 1 := (by omega); have hy3_20 : w.heap.size + 1 + 1 < w3.heap.size := (by omega); have hy3_21 : w.heap.size + 1 + 1 < w3.heap.size + 1 := (by omega); have hy3_22 : w.heap.size + 1 + 1 < w3.heap.size + 1 + 1 := (by omega)) | (go_at_call 12; (with_reducible refine (D.out _).mono ?_); rintro e w4 ⟨rfl, hb4⟩; obtain ⟨hc4, hf4⟩ := Lw.bcell hb4; have hz4 := hb4.size; (try simp at hz4); have hy4_00 : w.heap.size < w4.heap.size := (by omega); have hy4_01 : w.heap.size < w4.heap.size + 1 := (by omega); have hy4_02 : w.heap.size < w4.heap.size + 1 + 1 := (by omega); have hy4_10 : w.heap.size + 1 < w4.heap.size := (by omega); have hy4_11 : w.heap.size + 1 < w4.heap.size + 1 := (by omega); have hy4_12 : w.heap.size + 1 < w4.heap.size + 1 + 1 := (by omega); have hy4_20 : w.heap.size + 1 + 1 < w4.heap.size := (by omega); have hy4_21 : w.heap.size + 1 + 1 < w4.heap.size + 1 := (by omega); have hy4_22 : w.heap.size + 1 + 1 < w4.heap.size + 1 + 1 := (by omega)) | (go_at_call 14; (with_reducible refine (PW.out _).mono ?_); rintro e w' ⟨rfl, rfl⟩))
  go_ret
  exact ⟨by simp, by (repeat (first | exact Below.refl _ _ | refine Lw.bt ?_ (by assumption) | refine Lw.balloc ?_ _ | refine Lw.bdrewN ?_ _ | refine Below.drew ?_ | refine Lw.bset ?_ (by first | (simp; done) | (simp; omega) | omega) _))⟩
theorem TalkExtracts (P Q G H y F k a F' l b : Int) (w : World) (wP : (Lit.int .i64 P).wf = true) (wQ : (Lit.int .i64 Q).wf = true) (wG : (Lit.int .i64 G).wf = true) (wH : (Lit.int .i64 H).wf = true) (wy : (Lit.int .i64 y).wf = true) (wF : (Lit.int .i64 F).wf = true) (wk : (Lit.int .i64 k).wf = true) (wa : (Lit.int .i64 a).wf = true) (wF' : (Lit.int .i64 F').wf = true) (wl : (Lit.int .i64 l).wf = true) (wb : (Lit.int .i64 b).wf = true) :
    Calls Try.prog 4 #[.agg #[.int .i64 P, .int .i64 Q, .int .i64 G, .int .i64 H], .int .i64 y, .agg #[.int .i64 F, .int .i64 k, .int .i64 a], .agg #[.int .i64 F', .int .i64 l, .int .i64 b]] w fun e w' => e = .returned (.bool true) ∧ Below w.heap.size w w' := by
  by_cases h : Lw.askE P Q G H (Lw.pwsOf [(F, k, a), (F', l, b)]) (y :: Lw.fstsOf [(F, k, a), (F', l, b)]) = 0
  · cases hx : extB P G y F k a F' l b
    · exact TalkExtracts_ok P Q G H y F k a F' l b w h hx
    · exact TalkExtracts_arg P Q G H y F k a F' l b w h hx
  · exact TalkExtracts_bad P Q G H y F k a F' l b w h
end Go.Proofs.Ytfidmmgcmfnleaa.LW
