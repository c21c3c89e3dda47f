/- The law RsaParts: a turned number is told from by its parts, or the code. -/
import Derived.Test.YtoignifimgioaaaRsq
set_option linter.unusedVariables false
namespace Go.Proofs.Ytoignifimgioaaa.LW
open Go.RowKit
theorem rp_split {p q n : Int} (h : ¬ (p ≤ 1048576 ∧ q ≤ 1048576 ∧ Lw.twoB p q = true ∧ p * q = n)) :
    (Lw.firstI (Lw.primE p) (Lw.primE q) != 0) = true ∨ ((Lw.firstI (Lw.primE p) (Lw.primE q) != 0) = false ∧ (p == q) = true) ∨ ((Lw.firstI (Lw.primE p) (Lw.primE q) != 0) = false ∧ (p == q) = false ∧ 1 ≤ p ∧ p ≤ 1048576 ∧ 1 ≤ q ∧ q ≤ 1048576 ∧ (p * q != n) = true) := by
  have key : ∀ z : Int, Lw.primE z = 0 → 1 ≤ z ∧ z ≤ 1048576 ∧ Lw.primeB z = true := fun z hz => by
    unfold Lw.primE at hz
    by_cases hm : Lw.modI z = 0
    · rw [if_pos hm] at hz
      have : 1 ≤ z ∧ z ≤ 1048576 := by unfold Lw.modI at hm; split at hm <;> omega
      by_cases hp : Lw.primeB z = true
      · exact ⟨this.1, this.2, hp⟩
      · rw [if_neg hp] at hz; omega
    · rw [if_neg hm] at hz; omega
  by_cases hf : Lw.firstI (Lw.primE p) (Lw.primE q) = 0
  · have hp0 : Lw.primE p = 0 := by
      by_cases h0 : Lw.primE p = 0
      · exact h0
      · rw [Lw.firstI_ne _ _ h0] at hf; exact hf
    have hq0 : Lw.primE q = 0 := by rw [hp0, Lw.firstI_zero] at hf; exact hf
    obtain ⟨p1, p2, pp⟩ := key p hp0
    obtain ⟨q1, q2, qq⟩ := key q hq0
    right
    by_cases hpq : p = q
    · exact .inl ⟨by simp [hf], by simp [hpq]⟩
    · refine .inr ⟨by simp [hf], by simp [hpq], p1, p2, q1, q2, ?_⟩
      have : ¬ p * q = n := fun hh => h ⟨p2, q2, by unfold Lw.twoB; rw [pp, qq]; simp [hpq], hh⟩
      simpa using this
  · left; simpa using hf
theorem rp_ok {p q : Int} (p2 : p ≤ 1048576) (q2 : q ≤ 1048576) (h : Lw.twoB p q = true) : (Lw.firstI (Lw.primE p) (Lw.primE q) != 0) = false ∧ (p == q) = false := by
  obtain ⟨hp, hq, hne, P2, Q2⟩ := Lw.two_facts h
  have key : ∀ z : Int, 2 ≤ z → z ≤ 1048576 → Lw.primeB z = true → Lw.primE z = 0 := fun z z1 z2 hz => by
    unfold Lw.primE Lw.modI
    rw [if_pos (by rw [if_neg (by omega)]), if_pos hz]
  rw [key p P2 p2 hp, key q Q2 q2 hq]
  exact ⟨rfl, by simpa using hne⟩
set_option maxHeartbeats 2000000 in
theorem RsaParts (n e d x p q : Int) (w : World) (wn : (Lit.int .i64 n).wf = true) (we : (Lit.int .i64 e).wf = true) (wd : (Lit.int .i64 d).wf = true) (wx : (Lit.int .i64 x).wf = true) (wp : (Lit.int .i64 p).wf = true) (wq : (Lit.int .i64 q).wf = true) :
    Calls Try.prog 12 #[.agg #[.int .i64 n, .int .i64 e, .int .i64 d], .int .i64 x, .int .i64 p, .int .i64 q] w fun r w' => r = .returned (.bool true) ∧ Below w.heap.size w w' := by
  clear wn we wd wx wp wq
  have KC := fun w => law_keyCheck n e d x w
  have B0 := Lib.hid (Lw.blk_new w #[.int .i64 n, .int .i64 e, .int .i64 d] 54)
  by_cases hk : Lw.keyI n e d x = 0
  · by_cases h : p ≤ 1048576 ∧ q ≤ 1048576 ∧ Lw.twoB p q = true ∧ p * q = n
    · obtain ⟨p2, q2, ht, hpq⟩ := h
      have RP := Lib.hid (fun w => rsa_Parts_ok p q n e d x w hk ht p2 q2 hpq)
      obtain ⟨f0, ne⟩ := rp_ok p2 q2 ht
      obtain ⟨_, _, _, P2, Q2⟩ := Lw.two_facts ht
      have kb : 1 ≤ n ∧ n ≤ 1048576 ∧ 1 ≤ d ∧ d ≤ 2147483648 ∧ 0 ≤ x ∧ x < n := by
        by_cases hb : n < 1 ∨ 1048576 < n ∨ e < 1 ∨ 2147483648 < e ∨ d < 1 ∨ 2147483648 < d ∨ x < 0 ∨ n ≤ x
        · unfold Lw.keyI at hk; rw [if_pos hb] at hk; omega
        · omega
      obtain ⟨n1, n2, d1, d2, x1, x2⟩ := kb
      rw [hk] at KC
      replace KC := Lib.hid KC
      have PW := Lib.hid (fun w => ref_Pow d.toNat x d n w (Nat.le_refl _) (by omega) (by omega) (by omega) n2)
      have PP := Lib.hid (fun w => law_primal p w)
      have PQ := Lib.hid (fun w => law_primal q w)
      have FI := Lib.hid (fun w => law_first (Lw.primE p) (Lw.primE q) w)
      have e1 : IntKind.i64.wrap (p * q) = n := by rw [hpq, IntKind.wrap_i64]; omega
      obtain ⟨f, hf⟩ : ∃ f, Lw.firstI (Lw.primE p) (Lw.primE q) = f := ⟨_, rfl⟩
      rw [hf] at f0 FI
      obtain ⟨E, hE⟩ : ∃ E, Lw.pw x d n = E := ⟨_, rfl⟩
      rw [hE] at RP PW
      clear hf hE hk ht
      go_enter Try.func12, Try.ntmps12
      go_wp2_with fail
      refine (RP.out _).mono ?_
      rintro r w1 ⟨rfl, hb1⟩
      have C1 := (hb1.block w.heap.size (by simp)).trans B0.out
      have hz1 := hb1.size
      simp at hz1
      have l1 := Lw.blk_cell C1 0; have l2 := Lw.blk_cell C1 1; have l3 := Lw.blk_cell C1 2
      simp at l1 l2 l3
      go_wp2_with fail
      refine (KC.out _).mono ?_
      rintro r w2 ⟨rfl, hb2⟩
      have C2 := (hb2.block w.heap.size (by omega)).trans C1
      have m1 := Lw.blk_cell C2 0; have m2 := Lw.blk_cell C2 2
      simp at m1 m2
      clear C1 C2 B0
      go_wp2_with (first | (go_at_call 41; (with_reducible refine (PP.out _).mono ?_); rintro e w' ⟨rfl, rfl⟩) | (go_at_call 41; (with_reducible refine (PQ.out _).mono ?_); rintro e w' ⟨rfl, rfl⟩) | (go_at_call 14; (with_reducible refine (FI.out _).mono ?_); rintro e w' ⟨rfl, rfl⟩) | (go_at_call 42; (with_reducible refine (PW.out _).mono ?_); rintro e w' ⟨rfl, rfl⟩))
      go_ret
      exact ⟨by simp, by (repeat (first | exact Below.refl _ _ | refine Lw.bt ?_ (by assumption) | refine Lw.balloc ?_ _ | refine Lw.bdrewN ?_ _ | refine Below.drew ?_ | refine Lw.bset ?_ (by first | (simp; done) | (simp; omega) | omega) _))⟩
    · have RP := Lib.hid (fun w => rsa_Parts_arg p q n e d x w hk h)
      have hc := rp_split h
      rw [hk] at KC
      replace KC := Lib.hid KC
      have PP := Lib.hid (fun w => law_primal p w)
      have PQ := Lib.hid (fun w => law_primal q w)
      have FI := Lib.hid (fun w => law_first (Lw.primE p) (Lw.primE q) w)
      obtain ⟨f, hf⟩ : ∃ f, Lw.firstI (Lw.primE p) (Lw.primE q) = f := ⟨_, rfl⟩
      rw [hf] at hc FI
      clear hf hk h
      rcases hc with f0 | ⟨f0, ne⟩ | ⟨f0, ne, p1, p2, q1, q2, nn⟩
      · go_enter Try.func12, Try.ntmps12
        go_wp2_with (first | (go_at_call 39; (with_reducible refine (RP.out _).mono ?_); rintro r w1 ⟨rfl, hb1⟩; have C1 := (hb1.block w.heap.size (by simp)).trans B0.out; have hz1 := hb1.size; simp at hz1; have l1 := Lw.blk_cell C1 0; have l2 := Lw.blk_cell C1 1; have l3 := Lw.blk_cell C1 2; simp at l1 l2 l3) | (go_at_call 40; (with_reducible refine (KC.out _).mono ?_); rintro r w2 ⟨rfl, hb2⟩) | (go_at_call 41; (with_reducible refine (PP.out _).mono ?_); rintro e w' ⟨rfl, rfl⟩) | (go_at_call 41; (with_reducible refine (PQ.out _).mono ?_); rintro e w' ⟨rfl, rfl⟩) | (go_at_call 14; (with_reducible refine (FI.out _).mono ?_); rintro e w' ⟨rfl, rfl⟩))
        go_ret
        exact ⟨by simp, by (repeat (first | exact Below.refl _ _ | refine Lw.bt ?_ (by assumption) | refine Lw.balloc ?_ _ | refine Lw.bdrewN ?_ _ | refine Below.drew ?_ | refine Lw.bset ?_ (by first | (simp; done) | (simp; omega) | omega) _))⟩
      · go_enter Try.func12, Try.ntmps12
        go_wp2_with (first | (go_at_call 39; (with_reducible refine (RP.out _).mono ?_); rintro r w1 ⟨rfl, hb1⟩; have C1 := (hb1.block w.heap.size (by simp)).trans B0.out; have hz1 := hb1.size; simp at hz1; have l1 := Lw.blk_cell C1 0; have l2 := Lw.blk_cell C1 1; have l3 := Lw.blk_cell C1 2; simp at l1 l2 l3) | (go_at_call 40; (with_reducible refine (KC.out _).mono ?_); rintro r w2 ⟨rfl, hb2⟩) | (go_at_call 41; (with_reducible refine (PP.out _).mono ?_); rintro e w' ⟨rfl, rfl⟩) | (go_at_call 41; (with_reducible refine (PQ.out _).mono ?_); rintro e w' ⟨rfl, rfl⟩) | (go_at_call 14; (with_reducible refine (FI.out _).mono ?_); rintro e w' ⟨rfl, rfl⟩))
        go_ret
        exact ⟨by simp, by (repeat (first | exact Below.refl _ _ | refine Lw.bt ?_ (by assumption) | refine Lw.balloc ?_ _ | refine Lw.bdrewN ?_ _ | refine Below.drew ?_ | refine Lw.bset ?_ (by first | (simp; done) | (simp; omega) | omega) _))⟩
      · obtain ⟨u0, u1⟩ := Lw.mul_bd' p q 1048576 (by omega) p2 (by omega) q2
        have e1 : IntKind.i64.wrap (p * q) = p * q := by rw [IntKind.wrap_i64]; omega
        go_enter Try.func12, Try.ntmps12
        go_wp2_with fail
        refine (RP.out _).mono ?_
        rintro r w1 ⟨rfl, hb1⟩
        have C1 := (hb1.block w.heap.size (by simp)).trans B0.out
        have hz1 := hb1.size
        simp at hz1
        have l1 := Lw.blk_cell C1 0; have l2 := Lw.blk_cell C1 1; have l3 := Lw.blk_cell C1 2
        simp at l1 l2 l3
        go_wp2_with fail
        refine (KC.out _).mono ?_
        rintro r w2 ⟨rfl, hb2⟩
        have C2 := (hb2.block w.heap.size (by omega)).trans C1
        have m1 := Lw.blk_cell C2 0
        simp at m1
        clear C1 C2 B0
        go_wp2_with (first | (go_at_call 41; (with_reducible refine (PP.out _).mono ?_); rintro e w' ⟨rfl, rfl⟩) | (go_at_call 41; (with_reducible refine (PQ.out _).mono ?_); rintro e w' ⟨rfl, rfl⟩) | (go_at_call 14; (with_reducible refine (FI.out _).mono ?_); rintro e w' ⟨rfl, rfl⟩))
        go_ret
        exact ⟨by simp, by (repeat (first | exact Below.refl _ _ | refine Lw.bt ?_ (by assumption) | refine Lw.balloc ?_ _ | refine Lw.bdrewN ?_ _ | refine Below.drew ?_ | refine Lw.bset ?_ (by first | (simp; done) | (simp; omega) | omega) _))⟩
  · have RP := fun w => rsa_Parts_key p q n e d x w hk
    have h1 : (Lw.keyI n e d x == 0) = false := by simpa using hk
    obtain ⟨E, hE⟩ : ∃ E, Lw.keyI n e d x = E := ⟨_, rfl⟩
    rw [hE] at RP KC h1
    replace RP := Lib.hid RP
    replace KC := Lib.hid KC
    clear hE hk
    go_enter Try.func12, Try.ntmps12
    go_wp2_with (first | (go_at_call 39; (with_reducible refine (RP.out _).mono ?_); rintro r w1 ⟨rfl, hb1⟩; have C1 := (hb1.block w.heap.size (by simp)).trans B0.out; have hz1 := hb1.size; simp at hz1; have l1 := Lw.blk_cell C1 0; have l2 := Lw.blk_cell C1 1; have l3 := Lw.blk_cell C1 2; simp at l1 l2 l3) | (go_at_call 40; (with_reducible refine (KC.out _).mono ?_); rintro r w2 ⟨rfl, hb2⟩))
    go_ret
    exact ⟨by simp, by (repeat (first | exact Below.refl _ _ | refine Lw.bt ?_ (by assumption) | refine Lw.balloc ?_ _ | refine Lw.bdrewN ?_ _ | refine Below.drew ?_ | refine Lw.bset ?_ (by first | (simp; done) | (simp; omega) | omega) _))⟩
end Go.Proofs.Ytoignifimgioaaa.LW
