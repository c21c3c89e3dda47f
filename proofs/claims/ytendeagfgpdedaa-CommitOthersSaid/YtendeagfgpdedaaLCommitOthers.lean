/- The law CommitOthers: commit.Other opens to the other number, or the reference's code. -/
import Derived.Test.YtendeagfgpdedaaOther
set_option linter.unusedVariables false
namespace Go.Proofs.Ytendeagfgpdedaa.LW
open Go.RowKit
set_option maxHeartbeats 2000000 in
theorem CommitOthers_bad (P Q G H c m l : Int) (w : World) (h : ¬ Lw.askE P Q G H [m, l] [] = 0) :
    Calls Try.prog 11 #[.agg #[.int .i64 P, .int .i64 Q, .int .i64 G, .int .i64 H], .int .i64 c, .int .i64 m, .int .i64 l] w fun e w' => e = .returned (.bool true) ∧ Below w.heap.size w w' := by
  have hF := Lw.askE_mem_bad (c := c) h
  obtain ⟨E, hE⟩ : ∃ E, Lw.askE P Q G H [m, l] [] = E := ⟨_, rfl⟩
  rw [hE] at hF
  have hn : (E != 0) = true := by rw [← hE]; simpa using h
  have hn2 : (E == 0) = false := by simpa using hn
  have HE := Lib.hid hE
  have HF := Lib.hid hF
  clear h hE hF
  go_enter Try.func11, Try.ntmps11
  go_wp2_with (first | (go_at_call 28; (with_reducible refine (commit_Other_bad P Q G H c m l E _ HE.out hn).mono ?_); rintro e w1 ⟨rfl, hb1⟩; obtain ⟨hc1, hf1⟩ := Lw.bcell hb1; have hz1 := hb1.size; (try simp at hz1); have hy1_00 : w.heap.size < w1.heap.size := (by omega); have hy1_01 : w.heap.size < w1.heap.size + 1 := (by omega); have hy1_02 : w.heap.size < w1.heap.size + 1 + 1 := (by omega)) | (go_at_call 18; refine (ref_GroupAsk' P Q G H _ [m, l] [c] HF.out _ _ _ _ _ _ _ (by first | exact Lw.Rd.nil _ _ _ | exact Lw.Rd.lit (Lw.blk_new' (by simp) _ _) rfl rfl | exact Lw.Rd.lit (Lw.blk_alloc (Lw.blk_new' (by simp) _ _) _) rfl rfl) (by first | exact Lw.Rd.nil _ _ _ | exact Lw.Rd.lit (Lw.blk_new' (by simp) _ _) rfl rfl | exact Lw.Rd.lit (Lw.blk_alloc (Lw.blk_new' (by simp) _ _) _) rfl rfl) (Lw.max_of (by omega)) (Lw.max_of (by omega))).mono ?_; rintro e w2 ⟨rfl, hb2⟩; obtain ⟨hc2, hf2⟩ := Lw.bcell hb2; have hz2 := hb2.size; (try simp at hz2); have hy2_00 : w.heap.size < w2.heap.size := (by omega); have hy2_01 : w.heap.size < w2.heap.size + 1 := (by omega); have hy2_02 : w.heap.size < w2.heap.size + 1 + 1 := (by omega); have hy2_10 : w.heap.size + 1 < w2.heap.size := (by omega); have hy2_11 : w.heap.size + 1 < w2.heap.size + 1 := (by omega); have hy2_12 : w.heap.size + 1 < w2.heap.size + 1 + 1 := (by omega)))
  go_quiet (fail)
  go_wp2
  go_ret
  exact ⟨by simp, by (repeat (first | exact Below.refl _ _ | refine Lw.bt ?_ (by assumption) | refine Lw.balloc ?_ _ | refine Lw.bdrewN ?_ _ | refine Below.drew ?_ | refine Lw.bset ?_ (by first | (simp; done) | (simp; omega) | omega) _))⟩
set_option maxHeartbeats 2000000 in
theorem CommitOthers_form (P Q G H c m l : Int) (w : World) (h : Lw.askE P Q G H [m, l] [] = 0) (hc : Lw.memB P Q c = false) :
    Calls Try.prog 11 #[.agg #[.int .i64 P, .int .i64 Q, .int .i64 G, .int .i64 H], .int .i64 c, .int .i64 m, .int .i64 l] w fun e w' => e = .returned (.bool true) ∧ Below w.heap.size w w' := by
  have hF := Lw.askE_mem (c := c) h
  rw [if_neg (by rw [hc]; simp)] at hF
  have HE := Lib.hid h
  have HF := Lib.hid hF
  have HC := Lib.hid hc
  clear h hF hc
  go_enter Try.func11, Try.ntmps11
  go_wp2_with (first | (go_at_call 28; (with_reducible refine (commit_Other_form P Q G H c m l _ HE.out HC.out).mono ?_); rintro e w1 ⟨rfl, hb1⟩; obtain ⟨hc1, hf1⟩ := Lw.bcell hb1; have hz1 := hb1.size; (try simp at hz1); have hy1_00 : w.heap.size < w1.heap.size := (by omega); have hy1_01 : w.heap.size < w1.heap.size + 1 := (by omega); have hy1_02 : w.heap.size < w1.heap.size + 1 + 1 := (by omega)) | (go_at_call 18; refine (ref_GroupAsk' P Q G H _ [m, l] [c] HF.out _ _ _ _ _ _ _ (by first | exact Lw.Rd.nil _ _ _ | exact Lw.Rd.lit (Lw.blk_new' (by simp) _ _) rfl rfl | exact Lw.Rd.lit (Lw.blk_alloc (Lw.blk_new' (by simp) _ _) _) rfl rfl) (by first | exact Lw.Rd.nil _ _ _ | exact Lw.Rd.lit (Lw.blk_new' (by simp) _ _) rfl rfl | exact Lw.Rd.lit (Lw.blk_alloc (Lw.blk_new' (by simp) _ _) _) rfl rfl) (Lw.max_of (by omega)) (Lw.max_of (by omega))).mono ?_; rintro e w2 ⟨rfl, hb2⟩; obtain ⟨hc2, hf2⟩ := Lw.bcell hb2; have hz2 := hb2.size; (try simp at hz2); have hy2_00 : w.heap.size < w2.heap.size := (by omega); have hy2_01 : w.heap.size < w2.heap.size + 1 := (by omega); have hy2_02 : w.heap.size < w2.heap.size + 1 + 1 := (by omega); have hy2_10 : w.heap.size + 1 < w2.heap.size := (by omega); have hy2_11 : w.heap.size + 1 < w2.heap.size + 1 := (by omega); have hy2_12 : w.heap.size + 1 < w2.heap.size + 1 + 1 := (by omega)))
  go_quiet (fail)
  go_wp2
  go_ret
  exact ⟨by simp, by (repeat (first | exact Below.refl _ _ | refine Lw.bt ?_ (by assumption) | refine Lw.balloc ?_ _ | refine Lw.bdrewN ?_ _ | refine Below.drew ?_ | refine Lw.bset ?_ (by first | (simp; done) | (simp; omega) | omega) _))⟩
set_option maxHeartbeats 2000000 in
theorem CommitOthers_arg (P Q G H c m l : Int) (w : World) (h : Lw.askE P Q G H [m, l] [] = 0) (hc : Lw.memB P Q c = true) (hl : (Lw.pw G l P != H) = true) :
    Calls Try.prog 11 #[.agg #[.int .i64 P, .int .i64 Q, .int .i64 G, .int .i64 H], .int .i64 c, .int .i64 m, .int .i64 l] w fun e w' => e = .returned (.bool true) ∧ Below w.heap.size w w' := by
  have hF := Lw.askE_mem (c := c) h
  rw [if_pos hc] at hF
  obtain ⟨h1, h2, h3, h4, h5, h6, h7, h8, _⟩ := Lw.grp_facts (Lw.askE_ok h).1
  obtain ⟨m1, m2, e3⟩ := Lw.psB_cons (Lw.askE_ok h).2.1
  obtain ⟨l1, l2, _⟩ := Lw.psB_cons e3
  have HE := Lib.hid h
  have HF := Lib.hid hF
  have HC := Lib.hid hc
  clear h hF hc e3
  go_enter Try.func11, Try.ntmps11
  go_wp2_with (first | (go_at_call 28; (with_reducible refine (commit_Other_arg P Q G H c m l _ HE.out HC.out hl).mono ?_); rintro e w1 ⟨rfl, hb1⟩; obtain ⟨hc1, hf1⟩ := Lw.bcell hb1; have hz1 := hb1.size; (try simp at hz1); have hy1_00 : w.heap.size < w1.heap.size := (by omega); have hy1_01 : w.heap.size < w1.heap.size + 1 := (by omega); have hy1_02 : w.heap.size < w1.heap.size + 1 + 1 := (by omega)) | (go_at_call 18; refine (ref_GroupAsk' P Q G H _ [m, l] [c] HF.out _ _ _ _ _ _ _ (by first | exact Lw.Rd.nil _ _ _ | exact Lw.Rd.lit (Lw.blk_new' (by simp) _ _) rfl rfl | exact Lw.Rd.lit (Lw.blk_alloc (Lw.blk_new' (by simp) _ _) _) rfl rfl) (by first | exact Lw.Rd.nil _ _ _ | exact Lw.Rd.lit (Lw.blk_new' (by simp) _ _) rfl rfl | exact Lw.Rd.lit (Lw.blk_alloc (Lw.blk_new' (by simp) _ _) _) rfl rfl) (Lw.max_of (by omega)) (Lw.max_of (by omega))).mono ?_; rintro e w2 ⟨rfl, hb2⟩; obtain ⟨hc2, hf2⟩ := Lw.bcell hb2; have hz2 := hb2.size; (try simp at hz2); have hy2_00 : w.heap.size < w2.heap.size := (by omega); have hy2_01 : w.heap.size < w2.heap.size + 1 := (by omega); have hy2_02 : w.heap.size < w2.heap.size + 1 + 1 := (by omega); have hy2_10 : w.heap.size + 1 < w2.heap.size := (by omega); have hy2_11 : w.heap.size + 1 < w2.heap.size + 1 := (by omega); have hy2_12 : w.heap.size + 1 < w2.heap.size + 1 + 1 := (by omega)))
  go_quiet ((go_at_call 19; exact Lw.quiet (ref_Pow _ _ _ _ _ (Nat.le_refl _) (by omega) (by omega) (by omega) (by omega))))
  go_wp2
  go_ret
  exact ⟨by simp, by (repeat (first | exact Below.refl _ _ | refine Lw.bt ?_ (by assumption) | refine Lw.balloc ?_ _ | refine Lw.bdrewN ?_ _ | refine Below.drew ?_ | refine Lw.bset ?_ (by first | (simp; done) | (simp; omega) | omega) _))⟩
set_option maxHeartbeats 2000000 in
theorem CommitOthers_ok (P Q G H c m l : Int) (w : World) (h : Lw.askE P Q G H [m, l] [] = 0) (hc : Lw.memB P Q c = true) (hl : (Lw.pw G l P != H) = false) :
    Calls Try.prog 11 #[.agg #[.int .i64 P, .int .i64 Q, .int .i64 G, .int .i64 H], .int .i64 c, .int .i64 m, .int .i64 l] w fun e w' => e = .returned (.bool true) ∧ Below w.heap.size w w' := by
  have hF := Lw.askE_mem (c := c) h
  rw [if_pos hc] at hF
  obtain ⟨h1, h2, h3, h4, h5, h6, h7, h8, hP, hQ, hG, hH⟩ := Lw.grp_facts (Lw.askE_ok h).1
  obtain ⟨m1, m2, e3⟩ := Lw.psB_cons (Lw.askE_ok h).2.1
  obtain ⟨l1, l2, _⟩ := Lw.psB_cons e3
  obtain ⟨c1, c2, c3⟩ := Lw.memB_bd hc
  obtain ⟨_, ox⟩ := Lw.other_ex hP hQ hG hH h7 h8 c1 c2 c3 m1 m2
  have OX := Lib.hid ox
  have HE := Lib.hid h
  have HF := Lib.hid hF
  have HC := Lib.hid hc
  clear h hF hc e3 ox hP hQ hG hH
  go_enter Try.func11, Try.ntmps11
  go_wp2_with (first | (go_at_call 28; (with_reducible refine (commit_Other_ok P Q G H c m l _ HE.out HC.out hl).mono ?_); rintro e w1 ⟨o, ⟨o1, o2, o3⟩, rfl, hb1⟩; have OE := Lib.hid (OX.out o o3); clear o3; obtain ⟨hc1, hf1⟩ := Lw.bcell hb1; have hz1 := hb1.size; (try simp at hz1); have hy1_00 : w.heap.size < w1.heap.size := (by omega); have hy1_01 : w.heap.size < w1.heap.size + 1 := (by omega); have hy1_02 : w.heap.size < w1.heap.size + 1 + 1 := (by omega)) | (go_at_call 18; refine (ref_GroupAsk' P Q G H _ [m, l] [c] HF.out _ _ _ _ _ _ _ (by first | exact Lw.Rd.nil _ _ _ | exact Lw.Rd.lit (Lw.blk_new' (by simp) _ _) rfl rfl | exact Lw.Rd.lit (Lw.blk_alloc (Lw.blk_new' (by simp) _ _) _) rfl rfl) (by first | exact Lw.Rd.nil _ _ _ | exact Lw.Rd.lit (Lw.blk_new' (by simp) _ _) rfl rfl | exact Lw.Rd.lit (Lw.blk_alloc (Lw.blk_new' (by simp) _ _) _) rfl rfl) (Lw.max_of (by omega)) (Lw.max_of (by omega))).mono ?_; rintro e w2 ⟨rfl, hb2⟩; obtain ⟨hc2, hf2⟩ := Lw.bcell hb2; have hz2 := hb2.size; (try simp at hz2); have hy2_00 : w.heap.size < w2.heap.size := (by omega); have hy2_01 : w.heap.size < w2.heap.size + 1 := (by omega); have hy2_02 : w.heap.size < w2.heap.size + 1 + 1 := (by omega); have hy2_10 : w.heap.size + 1 < w2.heap.size := (by omega); have hy2_11 : w.heap.size + 1 < w2.heap.size + 1 := (by omega); have hy2_12 : w.heap.size + 1 < w2.heap.size + 1 + 1 := (by omega)))
  go_quiet ((go_at_call 19; exact Lw.quiet (ref_Pow _ _ _ _ _ (Nat.le_refl _) (by omega) (by omega) (by omega) (by omega))))
  have BE : Hid (Lw.bnd P Q G H m o = c) := OE.out
  go_wp2_with (go_at_call 27; (with_reducible refine (law_bound P Q G H m o _ h1 h2 m1 (by omega) o1 (by omega)).mono ?_); rintro e w3 ⟨rfl, hb3⟩; obtain ⟨hc3, hf3⟩ := Lw.bcell hb3; have hz3 := hb3.size; (try simp at hz3); have hy3_00 : w.heap.size < w3.heap.size := (by omega); have hy3_01 : w.heap.size < w3.heap.size + 1 := (by omega); have hy3_02 : w.heap.size < w3.heap.size + 1 + 1 := (by omega))
  go_ret
  exact ⟨by simp [BE.out], by (repeat (first | exact Below.refl _ _ | refine Lw.bt ?_ (by assumption) | refine Lw.balloc ?_ _ | refine Lw.bdrewN ?_ _ | refine Below.drew ?_ | refine Lw.bset ?_ (by first | (simp; done) | (simp; omega) | omega) _))⟩
theorem CommitOthers (P Q G H c m l : Int) (w : World) (wP : (Lit.int .i64 P).wf = true) (wQ : (Lit.int .i64 Q).wf = true) (wG : (Lit.int .i64 G).wf = true) (wH : (Lit.int .i64 H).wf = true) (wc : (Lit.int .i64 c).wf = true) (wm : (Lit.int .i64 m).wf = true) (wl : (Lit.int .i64 l).wf = true) :
    Calls Try.prog 11 #[.agg #[.int .i64 P, .int .i64 Q, .int .i64 G, .int .i64 H], .int .i64 c, .int .i64 m, .int .i64 l] w fun e w' => e = .returned (.bool true) ∧ Below w.heap.size w w' := by
  by_cases h : Lw.askE P Q G H [m, l] [] = 0
  · cases hc : Lw.memB P Q c with
    | false => exact CommitOthers_form P Q G H c m l w h hc
    | true =>
      cases hl : (Lw.pw G l P != H) with
      | true => exact CommitOthers_arg P Q G H c m l w h hc hl
      | false => exact CommitOthers_ok P Q G H c m l w h hc hl
  · exact CommitOthers_bad P Q G H c m l w h
end Go.Proofs.Ytendeagfgpdedaa.LW
