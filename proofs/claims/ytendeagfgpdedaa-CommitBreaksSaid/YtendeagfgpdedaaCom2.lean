/- Contracts of commit.over, commit.Other and commit.Break. -/
import Derived.Test.YtendeagfgpdedaaCom
import Derived.Test.YtendeagfgpdedaaBrk
namespace Lw
theorem inv_ok {b m : Int} (h1 : 1 ≤ m) (h2 : m ≤ 1048576) (h : gcdI (b % m) m = 1) : invR (b % m) m = invI (b % m) m ∧ invE (b % m) m = 0 ∧ 0 ≤ invI (b % m) m ∧ invI (b % m) m < m := by
  have hb := emod_bd b m (by omega)
  have := invE_zero (a := b % m) (m := m) (by omega) h
  obtain ⟨k1, k2, _⟩ := invI_spec (by omega) h
  exact ⟨this.2, this.1, k1, k2⟩
end Lw
set_option linter.unusedVariables false
set_option linter.unusedSimpArgs false
namespace Go.Proofs.Ytendeagfgpdedaa
open Go.RowKit
set_option maxHeartbeats 1000000 in
theorem commit_over (P Q G H a b : Int) (w : World) (h1 : 1 ≤ Q) (h2 : Q ≤ 1048576) (hg : Lw.gcdI (b % Q) Q = 1) :
    Calls Try.prog 41 #[.agg #[.int .i64 P, .int .i64 Q, .int .i64 G, .int .i64 H], .int .i64 a, .int .i64 b] w fun e w' => e = .returned (.int .i64 (a % Q * Lw.invI (b % Q) Q % Q)) ∧ Below w.heap.size w w' := by
  obtain ⟨i1, i2, i3, i4⟩ := Lw.inv_ok h1 h2 hg
  have C := fun (w : World) => euclid_Inverse (b % Q) Q w
  rw [i1, i2] at C
  have C := Lib.hid C
  obtain ⟨s1, s2⟩ := Lw.emod_bd a Q (by omega)
  generalize Lw.invI (b % Q) Q = k at *
  obtain ⟨q1, q2⟩ := Lw.mul_bd' (a % Q) k 1048576 s1 (by omega) i3 (by omega)
  clear i1 i2 hg
  have hQ0 : ¬ Q = 0 := by omega
  have W1 : IntKind.i64.wrap (a % Q * k) = a % Q * k := IntWalk.i64_in _ (by omega)
  have W2 : (a % Q * k).tmod Q = a % Q * k % Q := Int.tmod_eq_emod_of_nonneg q1
  go_enter Try.func41, Try.ntmps41
  go_wp2
  go_region_with (first | (go_at_call 48; refine (euclid_Mod _ _ _ (by omega) (by omega)).mono ?_; rintro e w' ⟨rfl, rfl⟩) | (go_at_call 49; (with_reducible refine (C.out _).mono ?_); rintro e w1 ⟨rfl, hb1⟩; obtain ⟨hc1, hf1⟩ := Lw.bcell hb1; have hz1 := hb1.size; (try simp at hz1); have hy1_00 : w.heap.size < w1.heap.size := (by omega); have hy1_01 : w.heap.size < w1.heap.size + 1 := (by omega); have hy1_02 : w.heap.size < w1.heap.size + 1 + 1 := (by omega)))
  all_goals go_wp2
  all_goals go_quiet ((go_at_call 48; exact Lw.quiet (euclid_Mod _ _ _ (by omega) (by omega))))
  all_goals go_wp2
  all_goals go_ret
  all_goals exact ⟨rfl, by (repeat (first | exact Below.refl _ _ | refine Lw.bt ?_ (by assumption) | refine Lw.balloc ?_ _ | refine Lw.bdrewN ?_ _ | refine Below.drew ?_ | refine Lw.bset ?_ (by first | (simp; done) | (simp; omega) | omega) _))⟩
set_option maxHeartbeats 2000000 in
theorem commit_Break_bad (P Q G H m r n s E : Int) (w : World) (hE : Lw.askE P Q G H [m, r, n, s] [] = E) (hn : (E != 0) = true) :
    Calls Try.prog 29 #[.agg #[.int .i64 P, .int .i64 Q, .int .i64 G, .int .i64 H], .int .i64 m, .int .i64 r, .int .i64 n, .int .i64 s] w fun e w' => e = .returned (.tuple #[.int .i64 0, .int .i64 E]) ∧ Below w.heap.size w w' := by
  rcases Lw.askE_app_bad (ps := [m, r]) (qs := [n, s]) hE with ⟨a1, a2⟩ | ⟨a1, _⟩
  · have A1 := Lib.hid a1
    have A2 := Lib.hid a2
    clear hE a1 a2
    go_enter Try.func29, Try.ntmps29
    go_wp2_with (first | (go_at_call 26; (with_reducible refine (commit_Commit_ok P Q G H m r _ A1.out).mono ?_); rintro e w1 ⟨rfl, hb1⟩; obtain ⟨hc1, hf1⟩ := Lw.bcell hb1; have hz1 := hb1.size; (try simp at hz1); have hy1_00 : w.heap.size < w1.heap.size := (by omega); have hy1_01 : w.heap.size < w1.heap.size + 1 := (by omega); have hy1_02 : w.heap.size < w1.heap.size + 1 + 1 := (by omega)) | (go_at_call 26; (with_reducible refine (commit_Commit_bad P Q G H n s E _ A2.out hn).mono ?_); rintro e w2 ⟨rfl, hb2⟩; obtain ⟨hc2, hf2⟩ := Lw.bcell hb2; have hz2 := hb2.size; (try simp at hz2); have hy2_00 : w.heap.size < w2.heap.size := (by omega); have hy2_01 : w.heap.size < w2.heap.size + 1 := (by omega); have hy2_02 : w.heap.size < w2.heap.size + 1 + 1 := (by omega)))
    go_ret2
    exact ⟨rfl, by (repeat (first | exact Below.refl _ _ | refine Lw.bt ?_ (by assumption) | refine Lw.balloc ?_ _ | refine Lw.bdrewN ?_ _ | refine Below.drew ?_ | refine Lw.bset ?_ (by first | (simp; done) | (simp; omega) | omega) _))⟩
  · have A1 := Lib.hid a1
    clear hE a1
    go_enter Try.func29, Try.ntmps29
    go_wp2_with (go_at_call 26; (with_reducible refine (commit_Commit_bad P Q G H m r E _ A1.out hn).mono ?_); rintro e w1 ⟨rfl, hb1⟩; obtain ⟨hc1, hf1⟩ := Lw.bcell hb1; have hz1 := hb1.size; (try simp at hz1); have hy1_00 : w.heap.size < w1.heap.size := (by omega); have hy1_01 : w.heap.size < w1.heap.size + 1 := (by omega); have hy1_02 : w.heap.size < w1.heap.size + 1 + 1 := (by omega))
    go_ret2
    exact ⟨rfl, by (repeat (first | exact Below.refl _ _ | refine Lw.bt ?_ (by assumption) | refine Lw.balloc ?_ _ | refine Lw.bdrewN ?_ _ | refine Below.drew ?_ | refine Lw.bset ?_ (by first | (simp; done) | (simp; omega) | omega) _))⟩
def formB (P Q G H m r n s : Int) : Bool := decide (m = n ∧ r = s) || (Lw.bnd P Q G H m r != Lw.bnd P Q G H n s)
set_option maxHeartbeats 2000000 in
theorem commit_Break_form (P Q G H m r n s : Int) (w : World) (hE : Lw.askE P Q G H [m, r, n, s] [] = 0) (hf : formB P Q G H m r n s = true) :
    Calls Try.prog 29 #[.agg #[.int .i64 P, .int .i64 Q, .int .i64 G, .int .i64 H], .int .i64 m, .int .i64 r, .int .i64 n, .int .i64 s] w fun e w' => e = .returned (.tuple #[.int .i64 0, .int .i64 4]) ∧ Below w.heap.size w w' := by
  obtain ⟨a1, a2⟩ := Lw.askE_app_ok (ps := [m, r]) (qs := [n, s]) hE
  have A1 := Lib.hid a1
  have A2 := Lib.hid a2
  clear hE a1 a2
  have hc : ((m == n) = true ∧ (r == s) = true) ∨ ((m == n) = true ∧ (r == s) = false ∧ (Lw.bnd P Q G H m r != Lw.bnd P Q G H n s) = true) ∨ ((m == n) = false ∧ (Lw.bnd P Q G H m r != Lw.bnd P Q G H n s) = true) := by
    unfold formB at hf
    by_cases h1 : m = n <;> by_cases h2 : r = s <;> simp [h1, h2] at hf ⊢ <;> exact hf
  clear hf
  rcases hc with ⟨c1, c2⟩ | ⟨c1, c2, c3⟩ | ⟨c1, c3⟩
  all_goals
    go_enter Try.func29, Try.ntmps29
    go_wp2_with (first | (go_at_call 26; (with_reducible refine (commit_Commit_ok P Q G H m r _ A1.out).mono ?_); rintro e w1 ⟨rfl, hb1⟩; obtain ⟨hc1, hf1⟩ := Lw.bcell hb1; have hz1 := hb1.size; (try simp at hz1); have hy1_00 : w.heap.size < w1.heap.size := (by omega); have hy1_01 : w.heap.size < w1.heap.size + 1 := (by omega); have hy1_02 : w.heap.size < w1.heap.size + 1 + 1 := (by omega)) | (go_at_call 26; (with_reducible refine (commit_Commit_ok P Q G H n s _ A2.out).mono ?_); rintro e w2 ⟨rfl, hb2⟩; obtain ⟨hc2, hf2⟩ := Lw.bcell hb2; have hz2 := hb2.size; (try simp at hz2); have hy2_00 : w.heap.size < w2.heap.size := (by omega); have hy2_01 : w.heap.size < w2.heap.size + 1 := (by omega); have hy2_02 : w.heap.size < w2.heap.size + 1 + 1 := (by omega)))
    go_ret2
    exact ⟨rfl, by (repeat (first | exact Below.refl _ _ | refine Lw.bt ?_ (by assumption) | refine Lw.balloc ?_ _ | refine Lw.bdrewN ?_ _ | refine Below.drew ?_ | refine Lw.bset ?_ (by first | (simp; done) | (simp; omega) | omega) _))⟩
set_option maxHeartbeats 2000000 in
theorem commit_Break_ok (P Q G H m r n s : Int) (w : World) (hE : Lw.askE P Q G H [m, r, n, s] [] = 0) (hf : formB P Q G H m r n s = false) (hg : Lw.gcdI ((s - r) % Q) Q = 1) :
    Calls Try.prog 29 #[.agg #[.int .i64 P, .int .i64 Q, .int .i64 G, .int .i64 H], .int .i64 m, .int .i64 r, .int .i64 n, .int .i64 s] w fun e w' => e = .returned (.tuple #[.int .i64 ((m - n) % Q * Lw.invI ((s - r) % Q) Q % Q), .int .i64 0]) ∧ Below w.heap.size w w' := by
  obtain ⟨e1, e2, _⟩ := Lw.askE_ok hE
  obtain ⟨h1, h2, h3, h4, _⟩ := Lw.grp_facts e1
  obtain ⟨m1, m2, e3⟩ := Lw.psB_cons e2
  obtain ⟨r1, r2, e4⟩ := Lw.psB_cons e3
  obtain ⟨n1, n2, e5⟩ := Lw.psB_cons e4
  obtain ⟨s1, s2, _⟩ := Lw.psB_cons e5
  obtain ⟨a1, a2⟩ := Lw.askE_app_ok (ps := [m, r]) (qs := [n, s]) hE
  have A1 := Lib.hid a1
  have A2 := Lib.hid a2
  have HG := Lib.hid hg
  clear hE a1 a2 e1 e2 e3 e4 e5 hg
  have hc : (Lw.bnd P Q G H m r != Lw.bnd P Q G H n s) = false ∧ (((m == n) = true ∧ (r == s) = false) ∨ ((m == n) = false)) := by
    unfold formB at hf
    by_cases h1 : m = n <;> by_cases h2 : r = s <;> simp [h1, h2] at hf ⊢ <;> exact hf
  clear hf
  obtain ⟨c3, ⟨c1, c2⟩ | c1⟩ := hc
  all_goals
    go_enter Try.func29, Try.ntmps29
    go_wp2_with (first | (go_at_call 26; (with_reducible refine (commit_Commit_ok P Q G H m r _ A1.out).mono ?_); rintro e w1 ⟨rfl, hb1⟩; obtain ⟨hc1, hf1⟩ := Lw.bcell hb1; have hz1 := hb1.size; (try simp at hz1); have hy1_00 : w.heap.size < w1.heap.size := (by omega); have hy1_01 : w.heap.size < w1.heap.size + 1 := (by omega); have hy1_02 : w.heap.size < w1.heap.size + 1 + 1 := (by omega)) | (go_at_call 26; (with_reducible refine (commit_Commit_ok P Q G H n s _ A2.out).mono ?_); rintro e w2 ⟨rfl, hb2⟩; obtain ⟨hc2, hf2⟩ := Lw.bcell hb2; have hz2 := hb2.size; (try simp at hz2); have hy2_00 : w.heap.size < w2.heap.size := (by omega); have hy2_01 : w.heap.size < w2.heap.size + 1 := (by omega); have hy2_02 : w.heap.size < w2.heap.size + 1 + 1 := (by omega)) | (go_at_call 41; (with_reducible refine (commit_over P Q G H (m - n) (s - r) _ (by omega) (by omega) HG.out).mono ?_); rintro e w3 ⟨rfl, hb3⟩; obtain ⟨hc3, hf3⟩ := Lw.bcell hb3; have hz3 := hb3.size; (try simp at hz3); have hy3_00 : w.heap.size < w3.heap.size := (by omega); have hy3_01 : w.heap.size < w3.heap.size + 1 := (by omega); have hy3_02 : w.heap.size < w3.heap.size + 1 + 1 := (by omega)))
    go_ret2
    exact ⟨rfl, by (repeat (first | exact Below.refl _ _ | refine Lw.bt ?_ (by assumption) | refine Lw.balloc ?_ _ | refine Lw.bdrewN ?_ _ | refine Below.drew ?_ | refine Lw.bset ?_ (by first | (simp; done) | (simp; omega) | omega) _))⟩
end Go.Proofs.Ytendeagfgpdedaa
