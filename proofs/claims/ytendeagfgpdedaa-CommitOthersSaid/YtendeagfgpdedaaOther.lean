/- Contract of commit.Other. -/
import Derived.Test.YtendeagfgpdedaaCom
import Derived.Test.YtendeagfgpdedaaBrk
import Derived.Test.YtendeagfgpdedaaSl2
namespace Lw
theorem quiet2 {P : Go.Program} {f : Go.FuncId} {args : Array Go.Value} {w : Go.World} {d n : Nat} {v : Go.Value} (h : Go.Calls P f args (w.drewN (d + n)) fun e w' => e = .returned v ∧ w.drewN (d + n) = w') : Go.Calls P f args (w.drewN (d + n)) fun e w'' => e = .returned v ∧ ∃ m, w'' = w.drewN (d + m) :=
  h.mono fun _ _ ⟨he, hm⟩ => ⟨he, n, hm.symm⟩
theorem askE_mem {P Q G H : Int} {ps : List Int} {c : Int} (h : askE P Q G H ps [] = 0) : askE P Q G H ps [c] = if memB P Q c = true then 0 else 4 := by
  obtain ⟨e1, e2, _⟩ := askE_ok h
  unfold askE
  rw [if_pos e1, if_pos e2]
  unfold msB
  simp only [List.all_cons, List.all_nil, Bool.and_true]
theorem askE_mem_bad {P Q G H : Int} {ps : List Int} {c : Int} (h : ¬ askE P Q G H ps [] = 0) : askE P Q G H ps [c] = askE P Q G H ps [] := by
  unfold askE at *
  by_cases h0 : groupE P Q G H = 0
  · rw [if_pos h0] at h
    rw [if_pos h0, if_pos h0]
    by_cases h1 : psB Q ps = true
    · rw [if_pos h1] at h; exact absurd rfl h
    · rw [if_neg h1, if_neg h1]
  · rw [if_neg h0, if_neg h0]
/-- the number that is looked for -/
theorem other_ex {P Q G H c m : Int} (hP : Prime P.toNat) (hQ : Prime Q.toNat) (hG : pw G Q P = 1) (hH : pw H Q P = 1) (H1 : 2 ≤ H) (H2 : H < P) (c1 : 1 ≤ c) (c2 : c < P) (hc : pw c Q P = 1) (m1 : 0 ≤ m) (m2 : m < Q) :
    (∃ i : Nat, (i : Int) < Q ∧ pw H (i : Int) P = c * pw G (Q - m) P % P) ∧ ∀ o, pw H o P = c * pw G (Q - m) P % P → pw G m P * pw H o P % P = c := by
  have hP1 : 1 < P := by have := hP.1; omega
  have hQ0 := prime_toNat hQ
  have g1 : pw G (Q - m) P = gp P Q G (-m) := by
    rw [gp_of hP1 hQ0 hG (by omega)]
    exact gp_congr G (by rw [show Q - m = -m + Q by omega, Int.add_emod_right])
  have hx := mem_mul hP1 hc (gp_mem hP1 hQ0 hG (-m))
  have hb := emod_bd (c * gp P Q G (-m)) P (by omega)
  refine ⟨?_, fun o ho => ?_⟩
  · obtain ⟨i, i1, i2⟩ := gp_all hP hQ hH H1 H2 hx hb.1 hb.2
    exact ⟨i, i1, by rw [g1, gp_of hP1 hQ0 hH (by omega)]; exact i2⟩
  · rw [ho, g1, gp_of hP1 hQ0 hG m1, Int.mul_comm]
    exact gp_cancel hP1 hQ0 hG m (by omega) c2
end Lw
set_option linter.unusedVariables false
set_option linter.unusedSimpArgs false
namespace Go.Proofs.Ytendeagfgpdedaa
open Go.RowKit
def OtherOk (P Q H l : Int) (w : World) (e : Ending) (w' : World) : Prop := ∃ o : Int, (0 ≤ o ∧ o < Q ∧ Lw.pw H o P = l) ∧ e = .returned (.tuple #[.int .i64 o, .int .i64 0]) ∧ Below w.heap.size w w'
theorem ix0 (a b : Int) : ∀ w, (Instr.index 60 (.agg #[.int .i64 a, .int .i64 b]) (.int .i64 0)).run Try.prog w = .ok (.int .i64 a) w := fun _ => by kernel_rfl
theorem ix1 (a b : Int) : ∀ w, (Instr.index 60 (.agg #[.int .i64 a, .int .i64 b]) (.int .i64 1)).run Try.prog w = .ok (.int .i64 b) w := fun _ => by kernel_rfl
set_option maxHeartbeats 2000000 in
theorem commit_Other_bad (P Q G H c m l E : Int) (w : World) (hE : Lw.askE P Q G H [m, l] [] = E) (hn : (E != 0) = true) :
    Calls Try.prog 28 #[.agg #[.int .i64 P, .int .i64 Q, .int .i64 G, .int .i64 H], .int .i64 c, .int .i64 m, .int .i64 l] w fun e w' => e = .returned (.tuple #[.int .i64 0, .int .i64 E]) ∧ Below w.heap.size w w' := by
  have i0 := ix0 m l
  have i1 := ix1 m l
  rcases Lw.askE_app_bad (ps := [m]) (qs := [l]) hE with ⟨a1, a2⟩ | ⟨a1, _⟩
  · have A1 := Lib.hid a1
    have A2 := Lib.hid a2
    clear hE a1 a2
    go_enter Try.func28, Try.ntmps28
    go_wp2_with fail
    refine wp_loop_rounds 3 ?_
    repeat any_goals (rw [rounds_succ]; go_wp2_with (first | (go_at_call 24; (with_reducible refine (group_Public_ok P Q G H m _ A1.out).mono ?_); rintro e w1 ⟨rfl, hb1⟩; obtain ⟨hc1, hf1⟩ := Lw.bcell hb1; have hz1 := hb1.size; (try simp at hz1); have hy1_00 : w.heap.size < w1.heap.size := (by omega); have hy1_01 : w.heap.size < w1.heap.size + 1 := (by omega); have hy1_02 : w.heap.size < w1.heap.size + 1 + 1 := (by omega)) | (go_at_call 24; (with_reducible refine (group_Public_bad P Q G H l E _ A2.out hn).mono ?_); rintro e w2 ⟨rfl, hb2⟩; obtain ⟨hc2, hf2⟩ := Lw.bcell hb2; have hz2 := hb2.size; (try simp at hz2); have hy2_00 : w.heap.size < w2.heap.size := (by omega); have hy2_01 : w.heap.size < w2.heap.size + 1 := (by omega); have hy2_02 : w.heap.size < w2.heap.size + 1 + 1 := (by omega))))
    go_ret2
    exact ⟨rfl, by (repeat (first | exact Below.refl _ _ | refine Lw.bt ?_ (by assumption) | refine Lw.balloc ?_ _ | refine Lw.bdrewN ?_ _ | refine Below.drew ?_ | refine Lw.bset ?_ (by first | (simp; done) | (simp; omega) | omega) _))⟩
  · have A1 := Lib.hid a1
    clear hE a1
    go_enter Try.func28, Try.ntmps28
    go_wp2_with fail
    refine wp_loop_rounds 3 ?_
    repeat any_goals (rw [rounds_succ]; go_wp2_with (go_at_call 24; (with_reducible refine (group_Public_bad P Q G H m E _ A1.out hn).mono ?_); rintro e w1 ⟨rfl, hb1⟩; obtain ⟨hc1, hf1⟩ := Lw.bcell hb1; have hz1 := hb1.size; (try simp at hz1); have hy1_00 : w.heap.size < w1.heap.size := (by omega); have hy1_01 : w.heap.size < w1.heap.size + 1 := (by omega); have hy1_02 : w.heap.size < w1.heap.size + 1 + 1 := (by omega)))
    go_ret2
    exact ⟨rfl, by (repeat (first | exact Below.refl _ _ | refine Lw.bt ?_ (by assumption) | refine Lw.balloc ?_ _ | refine Lw.bdrewN ?_ _ | refine Below.drew ?_ | refine Lw.bset ?_ (by first | (simp; done) | (simp; omega) | omega) _))⟩
set_option maxHeartbeats 4000000 in
theorem commit_Other_form (P Q G H c m l : Int) (w : World) (hE : Lw.askE P Q G H [m, l] [] = 0) (hc : Lw.memB P Q c = false) :
    Calls Try.prog 28 #[.agg #[.int .i64 P, .int .i64 Q, .int .i64 G, .int .i64 H], .int .i64 c, .int .i64 m, .int .i64 l] w fun e w' => e = .returned (.tuple #[.int .i64 0, .int .i64 4]) ∧ Below w.heap.size w w' := by
  have i0 := ix0 m l
  have i1 := ix1 m l
  obtain ⟨a1, a2⟩ := Lw.askE_app_ok (ps := [m]) (qs := [l]) hE
  obtain ⟨h1, h2, h3, h4, h5, h6, h7, h8, _⟩ := Lw.grp_facts (Lw.askE_ok a1).1
  have A1 := Lib.hid a1
  have A2 := Lib.hid a2
  clear hE a1 a2
  go_enter Try.func28, Try.ntmps28
  go_wp2_with fail
  refine wp_loop_rounds 3 ?_
  repeat any_goals (rw [rounds_succ]; go_wp2_with (first | (go_at_call 24; (with_reducible refine (group_Public_ok P Q G H m _ A1.out).mono ?_); rintro e w1 ⟨rfl, hb1⟩; obtain ⟨hc1, hf1⟩ := Lw.bcell hb1; have hz1 := hb1.size; (try simp at hz1); have hy1_00 : w.heap.size < w1.heap.size := (by omega); have hy1_01 : w.heap.size < w1.heap.size + 1 := (by omega); have hy1_02 : w.heap.size < w1.heap.size + 1 + 1 := (by omega)) | (go_at_call 24; (with_reducible refine (group_Public_ok P Q G H l _ A2.out).mono ?_); rintro e w2 ⟨rfl, hb2⟩; obtain ⟨hc2, hf2⟩ := Lw.bcell hb2; have hz2 := hb2.size; (try simp at hz2); have hy2_00 : w.heap.size < w2.heap.size := (by omega); have hy2_01 : w.heap.size < w2.heap.size + 1 := (by omega); have hy2_02 : w.heap.size < w2.heap.size + 1 + 1 := (by omega)) | (go_at_call 36; (with_reducible refine (group_Member P Q G H c _ h1 h2 (by omega) (by omega)).mono ?_); rintro e w3 ⟨rfl, hb3⟩; obtain ⟨hc3, hf3⟩ := Lw.bcell hb3; have hz3 := hb3.size; (try simp at hz3); have hy3_00 : w.heap.size < w3.heap.size := (by omega); have hy3_01 : w.heap.size < w3.heap.size + 1 := (by omega); have hy3_02 : w.heap.size < w3.heap.size + 1 + 1 := (by omega))))
  go_ret2
  exact ⟨rfl, by (repeat (first | exact Below.refl _ _ | refine Lw.bt ?_ (by assumption) | refine Lw.balloc ?_ _ | refine Lw.bdrewN ?_ _ | refine Below.drew ?_ | refine Lw.bset ?_ (by first | (simp; done) | (simp; omega) | omega) _))⟩
set_option maxHeartbeats 4000000 in
theorem commit_Other_arg (P Q G H c m l : Int) (w : World) (hE : Lw.askE P Q G H [m, l] [] = 0) (hc : Lw.memB P Q c = true) (hl : (Lw.pw G l P != H) = true) :
    Calls Try.prog 28 #[.agg #[.int .i64 P, .int .i64 Q, .int .i64 G, .int .i64 H], .int .i64 c, .int .i64 m, .int .i64 l] w fun e w' => e = .returned (.tuple #[.int .i64 0, .int .i64 3]) ∧ Below w.heap.size w w' := by
  have i0 := ix0 m l
  have i1 := ix1 m l
  obtain ⟨a1, a2⟩ := Lw.askE_app_ok (ps := [m]) (qs := [l]) hE
  obtain ⟨h1, h2, h3, h4, h5, h6, h7, h8, _⟩ := Lw.grp_facts (Lw.askE_ok a1).1
  obtain ⟨l1, l2, _⟩ := Lw.psB_cons (Lw.askE_ok a2).2.1
  have A1 := Lib.hid a1
  have A2 := Lib.hid a2
  clear hE a1 a2
  go_enter Try.func28, Try.ntmps28
  go_wp2_with fail
  refine wp_loop_rounds 3 ?_
  repeat any_goals (rw [rounds_succ]; go_wp2_with (first | (go_at_call 24; (with_reducible refine (group_Public_ok P Q G H m _ A1.out).mono ?_); rintro e w1 ⟨rfl, hb1⟩; obtain ⟨hc1, hf1⟩ := Lw.bcell hb1; have hz1 := hb1.size; (try simp at hz1); have hy1_00 : w.heap.size < w1.heap.size := (by omega); have hy1_01 : w.heap.size < w1.heap.size + 1 := (by omega); have hy1_02 : w.heap.size < w1.heap.size + 1 + 1 := (by omega)) | (go_at_call 24; (with_reducible refine (group_Public_ok P Q G H l _ A2.out).mono ?_); rintro e w2 ⟨rfl, hb2⟩; obtain ⟨hc2, hf2⟩ := Lw.bcell hb2; have hz2 := hb2.size; (try simp at hz2); have hy2_00 : w.heap.size < w2.heap.size := (by omega); have hy2_01 : w.heap.size < w2.heap.size + 1 := (by omega); have hy2_02 : w.heap.size < w2.heap.size + 1 + 1 := (by omega)) | (go_at_call 36; (with_reducible refine (group_Member P Q G H c _ h1 h2 (by omega) (by omega)).mono ?_); rintro e w3 ⟨rfl, hb3⟩; obtain ⟨hc3, hf3⟩ := Lw.bcell hb3; have hz3 := hb3.size; (try simp at hz3); have hy3_00 : w.heap.size < w3.heap.size := (by omega); have hy3_01 : w.heap.size < w3.heap.size + 1 := (by omega); have hy3_02 : w.heap.size < w3.heap.size + 1 + 1 := (by omega))))
  go_quiet ((go_at_call 39; exact Lw.quiet (power_Of _ _ _ _ (by omega) (by omega) (by omega) (by omega))))
  go_wp2
  go_ret2
  exact ⟨rfl, by (repeat (first | exact Below.refl _ _ | refine Lw.bt ?_ (by assumption) | refine Lw.balloc ?_ _ | refine Lw.bdrewN ?_ _ | refine Below.drew ?_ | refine Lw.bset ?_ (by first | (simp; done) | (simp; omega) | omega) _))⟩
set_option maxHeartbeats 4000000 in
theorem commit_Other_ok (P Q G H c m l : Int) (w : World) (hE : Lw.askE P Q G H [m, l] [] = 0) (hc : Lw.memB P Q c = true) (hl : (Lw.pw G l P != H) = false) :
    Calls Try.prog 28 #[.agg #[.int .i64 P, .int .i64 Q, .int .i64 G, .int .i64 H], .int .i64 c, .int .i64 m, .int .i64 l] w (OtherOk P Q H (c * Lw.pw G (Q - m) P % P) w) := by
  have i0 := ix0 m l
  have i1 := ix1 m l
  obtain ⟨a1, a2⟩ := Lw.askE_app_ok (ps := [m]) (qs := [l]) hE
  obtain ⟨h1, h2, h3, h4, h5, h6, h7, h8, hP, hQ, hG, hH⟩ := Lw.grp_facts (Lw.askE_ok a1).1
  obtain ⟨l1, l2, _⟩ := Lw.psB_cons (Lw.askE_ok a2).2.1
  obtain ⟨m1, m2, _⟩ := Lw.psB_cons (Lw.askE_ok a1).2.1
  obtain ⟨c1, c2, c3⟩ := Lw.memB_bd hc
  obtain ⟨⟨t, t1, t2⟩, _⟩ := Lw.other_ex hP hQ hG hH h7 h8 c1 c2 c3 m1 m2
  obtain ⟨z1, z2⟩ := Lw.pw_bd G (Q - m) P (by omega)
  obtain ⟨q1, q2⟩ := Lw.mul_bd' c (Lw.pw G (Q - m) P) 1048576 (by omega) (by omega) z1 (by omega)
  have A1 := Lib.hid a1
  have A2 := Lib.hid a2
  have T2 := Lib.hid t2
  clear hE a1 a2 hP hQ hG hH t2
  have W0 : IntKind.i64.wrap (Q - m) = Q - m := IntWalk.i64_in _ (by omega)
  have W1 : IntKind.i64.wrap (c * Lw.pw G (Q - m) P) = c * Lw.pw G (Q - m) P := IntWalk.i64_in _ (by omega)
  have W2 : (c * Lw.pw G (Q - m) P).tmod P = c * Lw.pw G (Q - m) P % P := Int.tmod_eq_emod_of_nonneg q1
  have hP0 : ¬ P = 0 := by omega
  have W0 := Lib.hid W0; have W1 := Lib.hid W1; have W2 := Lib.hid W2
  go_enter Try.func28, Try.ntmps28
  go_wp2_with fail
  refine wp_loop_rounds 3 ?_
  repeat any_goals (rw [rounds_succ]; go_wp2_with (first | (go_at_call 24; (with_reducible refine (group_Public_ok P Q G H m _ A1.out).mono ?_); rintro e w1 ⟨rfl, hb1⟩; obtain ⟨hc1, hf1⟩ := Lw.bcell hb1; have hz1 := hb1.size; (try simp at hz1); have hy1_00 : w.heap.size < w1.heap.size := (by omega); have hy1_01 : w.heap.size < w1.heap.size + 1 := (by omega); have hy1_02 : w.heap.size < w1.heap.size + 1 + 1 := (by omega)) | (go_at_call 24; (with_reducible refine (group_Public_ok P Q G H l _ A2.out).mono ?_); rintro e w2 ⟨rfl, hb2⟩; obtain ⟨hc2, hf2⟩ := Lw.bcell hb2; have hz2 := hb2.size; (try simp at hz2); have hy2_00 : w.heap.size < w2.heap.size := (by omega); have hy2_01 : w.heap.size < w2.heap.size + 1 := (by omega); have hy2_02 : w.heap.size < w2.heap.size + 1 + 1 := (by omega)) | (go_at_call 36; (with_reducible refine (group_Member P Q G H c _ h1 h2 (by omega) (by omega)).mono ?_); rintro e w3 ⟨rfl, hb3⟩; obtain ⟨hc3, hf3⟩ := Lw.bcell hb3; have hz3 := hb3.size; (try simp at hz3); have hy3_00 : w.heap.size < w3.heap.size := (by omega); have hy3_01 : w.heap.size < w3.heap.size + 1 := (by omega); have hy3_02 : w.heap.size < w3.heap.size + 1 + 1 := (by omega))))
  go_quiet ((go_at_call 39; exact Lw.quiet (power_Of _ _ _ _ (by omega) (by omega) (by omega) (by omega))))
  go_wp2
  have V0 := W0.out; have V1 := W1.out; have V2 := W2.out
  go_quiet ((go_at_call 39; exact Lw.quiet2 (power_Of _ _ _ _ (by omega) (by omega) (by omega) (by omega))))
  clear V0 V1 V2 W0 W1 W2
  generalize c * Lw.pw G (Q - m) P % P = L at *
  go_wp2
  go_loopw [15] (fun r wr => ∃ k d : Nat, r = .int .i64 (k : Int) ∧ k ≤ t ∧ Hid (∀ j : Nat, j < k → ¬ Lw.pw H (j : Int) P = L) ∧ wr = w3.drewN d) (fun r _ => t - (intOf r).toNat)
  case atStart => exact ⟨0, _, rfl, by omega, fun j hj => by omega, by first | rfl | rw [World.drewN_drewN]⟩
  case round =>
    obtain ⟨k, d, rfl, k1, N, rfl⟩ := hrel
    have hp0 : (0 : Int) < P := by omega
    have hp1 : P ≤ 1048576 := by omega
    have k2 : (0 : Int) ≤ (k : Int) := by omega
    have k3 : (k : Int) ≤ 4611686018427387904 := by omega
    by_cases hk : Lw.pw H (k : Int) P = L
    · have hb : (Lw.pw H (k : Int) P == L) = true := by simp; exact hk
      have K := Lib.hid hk
      clear hk
      go_wp2_with (go_at_call 39; refine (power_Of _ _ _ _ k2 k3 hp0 hp1).mono ?_; rintro e w' ⟨rfl, rfl⟩)
      go_ret2
      exact ⟨k, ⟨by omega, by omega, K.out⟩, rfl, by (repeat (first | exact Below.refl _ _ | refine Lw.bt ?_ (by assumption) | refine Lw.balloc ?_ _ | refine Lw.bdrewN ?_ _ | refine Below.drew ?_ | refine Lw.bset ?_ (by first | (simp; done) | (simp; omega) | omega) _))⟩
    · have hb : (Lw.pw H (k : Int) P == L) = false := by simp; exact hk
      have hlt : k < t := by
        by_cases e : k = t
        · subst e; exact absurd T2.out hk
        · omega
      have N1 : Hid (∀ j : Nat, j < k + 1 → ¬ Lw.pw H (j : Int) P = L) := fun j hj => by
        by_cases e : j = k
        · subst e; exact hk
        · exact N.out j (by omega)
      clear hk
      go_wp2_with (go_at_call 39; refine (power_Of _ _ _ _ k2 k3 hp0 hp1).mono ?_; rintro e w' ⟨rfl, rfl⟩)
      go_roundw
      case rel => exact ⟨k + 1, _, by go_num, by omega, N1, by first | rfl | rw [World.drewN_drewN]⟩
      case measure => simp [intOf]; omega
end Go.Proofs.Ytendeagfgpdedaa
