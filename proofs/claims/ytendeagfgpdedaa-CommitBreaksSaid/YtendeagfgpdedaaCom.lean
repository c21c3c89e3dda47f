/- Contracts of package commit, and of the statements' helper bound. -/
import Derived.Test.YtendeagfgpdedaaGrp1
import Derived.Test.YtendeagfgpdedaaMem
import Derived.Test.YtendeagfgpdedaaEuc
import Derived.Deep.RegionWith
import Derived.IntWalk
namespace Lw
theorem askE_app (P Q G H : Int) (ps qs : List Int) : askE P Q G H (ps ++ qs) [] = if askE P Q G H ps [] = 0 then askE P Q G H qs [] else askE P Q G H ps [] := by
  unfold askE
  have h : psB Q (ps ++ qs) = (psB Q ps && psB Q qs) := by unfold psB; rw [List.all_append]
  have hm : msB P Q [] = true := rfl
  rw [h, hm]
  by_cases h0 : groupE P Q G H = 0
  · simp only [h0, if_true]
    cases psB Q ps <;> cases psB Q qs <;> simp
  · simp only [h0, if_false]
theorem askE_app_ok {P Q G H : Int} {ps qs : List Int} (h : askE P Q G H (ps ++ qs) [] = 0) : askE P Q G H ps [] = 0 ∧ askE P Q G H qs [] = 0 := by
  rw [askE_app] at h
  by_cases h1 : askE P Q G H ps [] = 0
  · rw [if_pos h1] at h; exact ⟨h1, h⟩
  · rw [if_neg h1] at h; exact absurd h h1
theorem askE_app_bad {P Q G H E : Int} {ps qs : List Int} (h : askE P Q G H (ps ++ qs) [] = E) : (askE P Q G H ps [] = 0 ∧ askE P Q G H qs [] = E) ∨ (askE P Q G H ps [] = E ∧ ¬ E = 0) := by
  rw [askE_app] at h
  by_cases h1 : askE P Q G H ps [] = 0
  · rw [if_pos h1] at h; exact .inl ⟨h1, h⟩
  · rw [if_neg h1] at h; exact .inr ⟨h, by rw [← h]; exact h1⟩
def bnd (P Q G H m r : Int) : Int := pw G m P * pw H r P % P
/-- the facts of a group that may be -/
theorem grp_facts {P Q G H : Int} (h : groupE P Q G H = 0) : 3 ≤ P ∧ P ≤ 1048576 ∧ 2 ≤ Q ∧ Q < P ∧ 2 ≤ G ∧ G < P ∧ 2 ≤ H ∧ H < P ∧ Prime P.toNat ∧ Prime Q.toNat ∧ pw G Q P = 1 ∧ pw H Q P = 1 := by
  obtain ⟨⟨h1, h2, h3, h4, h5, h6, h7, h8⟩, g1, g2, g3, g4, g5⟩ := groupE_ok h
  refine ⟨h1, h2, h3, h4, h5, h6, h7, h8, ?_, ?_, g4, g5⟩
  · unfold primeB at g1; exact of_decide_eq_true g1
  · unfold primeB at g2; exact of_decide_eq_true g2
theorem pw_prod_bd {P x y : Int} (h1 : 0 < P) (h2 : P ≤ 1048576) (hx : 0 ≤ x ∧ x < P) (hy : 0 ≤ y ∧ y < P) : 0 ≤ x * y ∧ x * y ≤ 1099511627776 := by
  have := mul_bd' x y 1048576 hx.1 (by omega) hy.1 (by omega); omega
end Lw
set_option linter.unusedVariables false
set_option linter.unusedSimpArgs false
namespace Go.Proofs.Ytendeagfgpdedaa
open Go.RowKit
set_option maxHeartbeats 1000000 in
theorem commit_Commit_ok (P Q G H m r : Int) (w : World) (hE : Lw.askE P Q G H [m, r] [] = 0) :
    Calls Try.prog 26 #[.agg #[.int .i64 P, .int .i64 Q, .int .i64 G, .int .i64 H], .int .i64 m, .int .i64 r] w fun e w' => e = .returned (.tuple #[.int .i64 (Lw.bnd P Q G H m r), .int .i64 0]) ∧ Below w.heap.size w w' := by
  obtain ⟨a1, a2⟩ := Lw.askE_app_ok (ps := [m]) (qs := [r]) hE
  obtain ⟨h1, h2, h3, h4, h5, h6, h7, h8, _⟩ := Lw.grp_facts (Lw.askE_ok a1).1
  have A1 := Lib.hid ((Lw.askE_G P Q G H [m] []).trans a1)
  have A2 := Lib.hid ((Lw.askE_H P Q G H [r] []).trans a2)
  obtain ⟨q1, q2⟩ := Lw.pw_prod_bd (by omega) h2 (Lw.pw_bd G m P (by omega)) (Lw.pw_bd H r P (by omega))
  have E : Hid (Lw.bnd P Q G H m r = Lw.pw G m P * Lw.pw H r P % P) := rfl
  have hP0 : ¬ P = 0 := by omega
  clear hE a1 a2
  go_enter Try.func26, Try.ntmps26
  go_wp2_with (first | (go_at_call 17; (with_reducible refine (group_Shared_ok P Q G H m G _ A1.out).mono ?_); rintro e w1 ⟨rfl, hb1⟩; obtain ⟨hc1, hf1⟩ := Lw.bcell hb1; have hz1 := hb1.size; (try simp at hz1); have hy1_00 : w.heap.size < w1.heap.size := (by omega); have hy1_01 : w.heap.size < w1.heap.size + 1 := (by omega); have hy1_02 : w.heap.size < w1.heap.size + 1 + 1 := (by omega)) | (go_at_call 17; (with_reducible refine (group_Shared_ok P Q G H r H _ A2.out).mono ?_); rintro e w2 ⟨rfl, hb2⟩; obtain ⟨hc2, hf2⟩ := Lw.bcell hb2; have hz2 := hb2.size; (try simp at hz2); have hy2_00 : w.heap.size < w2.heap.size := (by omega); have hy2_01 : w.heap.size < w2.heap.size + 1 := (by omega); have hy2_02 : w.heap.size < w2.heap.size + 1 + 1 := (by omega)))
  go_ret2
  rw [E.out]
  exact ⟨rfl, by (repeat (first | exact Below.refl _ _ | refine Lw.bt ?_ (by assumption) | refine Lw.balloc ?_ _ | refine Lw.bdrewN ?_ _ | refine Below.drew ?_ | refine Lw.bset ?_ (by first | (simp; done) | (simp; omega) | omega) _))⟩
set_option maxHeartbeats 1000000 in
theorem commit_Commit_bad (P Q G H m r E : Int) (w : World) (hE : Lw.askE P Q G H [m, r] [] = E) (hn : (E != 0) = true) :
    Calls Try.prog 26 #[.agg #[.int .i64 P, .int .i64 Q, .int .i64 G, .int .i64 H], .int .i64 m, .int .i64 r] w fun e w' => e = .returned (.tuple #[.int .i64 0, .int .i64 E]) ∧ Below w.heap.size w w' := by
  rcases Lw.askE_app_bad (ps := [m]) (qs := [r]) hE with ⟨a1, a2⟩ | ⟨a1, _⟩
  · have A1 := Lib.hid ((Lw.askE_G P Q G H [m] []).trans a1)
    have A2 := Lib.hid ((Lw.askE_H P Q G H [r] []).trans a2)
    clear hE a1 a2
    go_enter Try.func26, Try.ntmps26
    go_wp2_with (first | (go_at_call 17; (with_reducible refine (group_Shared_ok P Q G H m G _ A1.out).mono ?_); rintro e w1 ⟨rfl, hb1⟩; obtain ⟨hc1, hf1⟩ := Lw.bcell hb1; have hz1 := hb1.size; (try simp at hz1); have hy1_00 : w.heap.size < w1.heap.size := (by omega); have hy1_01 : w.heap.size < w1.heap.size + 1 := (by omega); have hy1_02 : w.heap.size < w1.heap.size + 1 + 1 := (by omega)) | (go_at_call 17; (with_reducible refine (group_Shared_bad P Q G H r H E _ A2.out hn).mono ?_); rintro e w2 ⟨rfl, hb2⟩; obtain ⟨hc2, hf2⟩ := Lw.bcell hb2; have hz2 := hb2.size; (try simp at hz2); have hy2_00 : w.heap.size < w2.heap.size := (by omega); have hy2_01 : w.heap.size < w2.heap.size + 1 := (by omega); have hy2_02 : w.heap.size < w2.heap.size + 1 + 1 := (by omega)))
    go_ret2
    exact ⟨rfl, by (repeat (first | exact Below.refl _ _ | refine Lw.bt ?_ (by assumption) | refine Lw.balloc ?_ _ | refine Lw.bdrewN ?_ _ | refine Below.drew ?_ | refine Lw.bset ?_ (by first | (simp; done) | (simp; omega) | omega) _))⟩
  · have A1 := Lib.hid ((Lw.askE_G P Q G H [m] []).trans a1)
    clear hE a1
    go_enter Try.func26, Try.ntmps26
    go_wp2_with (go_at_call 17; (with_reducible refine (group_Shared_bad P Q G H m G E _ A1.out hn).mono ?_); rintro e w1 ⟨rfl, hb1⟩; obtain ⟨hc1, hf1⟩ := Lw.bcell hb1; have hz1 := hb1.size; (try simp at hz1); have hy1_00 : w.heap.size < w1.heap.size := (by omega); have hy1_01 : w.heap.size < w1.heap.size + 1 := (by omega); have hy1_02 : w.heap.size < w1.heap.size + 1 + 1 := (by omega))
    go_ret2
    exact ⟨rfl, by (repeat (first | exact Below.refl _ _ | refine Lw.bt ?_ (by assumption) | refine Lw.balloc ?_ _ | refine Lw.bdrewN ?_ _ | refine Below.drew ?_ | refine Lw.bset ?_ (by first | (simp; done) | (simp; omega) | omega) _))⟩
set_option maxHeartbeats 1000000 in
theorem law_bound (P Q G H m r : Int) (w : World) (h1 : 3 ≤ P) (h2 : P ≤ 1048576) (m1 : 0 ≤ m) (m2 : m ≤ 1048576) (r1 : 0 ≤ r) (r2 : r ≤ 1048576) :
    Calls Try.prog 27 #[.agg #[.int .i64 P, .int .i64 Q, .int .i64 G, .int .i64 H], .int .i64 m, .int .i64 r] w fun e w' => e = .returned (.int .i64 (Lw.bnd P Q G H m r)) ∧ Below w.heap.size w w' := by
  obtain ⟨q1, q2⟩ := Lw.pw_prod_bd (by omega) h2 (Lw.pw_bd G m P (by omega)) (Lw.pw_bd H r P (by omega))
  have E : Hid (Lw.bnd P Q G H m r = Lw.pw G m P * Lw.pw H r P % P) := rfl
  have hP0 : ¬ P = 0 := by omega
  go_enter Try.func27, Try.ntmps27
  go_wp2
  have W1 : IntKind.i64.wrap (Lw.pw G m P * Lw.pw H r P) = Lw.pw G m P * Lw.pw H r P := IntWalk.i64_in _ (by omega)
  have W2 : (Lw.pw G m P * Lw.pw H r P).tmod P = Lw.pw G m P * Lw.pw H r P % P := Int.tmod_eq_emod_of_nonneg q1
  go_quiet ((go_at_call 19; exact Lw.quiet (ref_Pow _ _ _ _ _ (Nat.le_refl _) (by omega) (by omega) (by omega) (by omega))))
  go_wp2
  go_ret
  rw [E.out]
  exact ⟨rfl, by (repeat (first | exact Below.refl _ _ | refine Lw.bt ?_ (by assumption) | refine Lw.balloc ?_ _ | refine Lw.bdrewN ?_ _ | refine Below.drew ?_ | refine Lw.bset ?_ (by first | (simp; done) | (simp; omega) | omega) _))⟩
end Go.Proofs.Ytendeagfgpdedaa
