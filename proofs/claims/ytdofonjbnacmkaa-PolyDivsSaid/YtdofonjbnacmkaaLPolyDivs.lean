/- The law PolyDivs: quotient and rest; their sum is what was divided, the rest the reference's. -/
import Derived.Test.YtdofonjbnacmkaaPld
import Derived.Test.YtdofonjbnacmkaaRow
set_option linter.unusedVariables false
namespace Go.Proofs.Ytdofonjbnacmkaa.LW
open Go.RowKit
set_option maxRecDepth 100000 in
set_option maxHeartbeats 4000000 in
theorem PolyDivs (p : Int) (A : Option Addr) (n c : Nat) (xs : List Int) (B : Option Addr) (m d : Nat) (ys : List Int) (w : World) (wp : (Lit.int .i64 p).wf = true) (h : Lw.IsRow .i64 w A n c xs) (h2 : Lw.IsRow .i64 w B m d ys) :
    Calls Try.prog 8 #[.int .i64 p, .slice A n c, .slice B m d] w fun e w' => e = .returned (.bool true) ∧ Below w.heap.size w w' := by
  obtain ⟨RA, _, _, _, _⟩ := h.rd
  obtain ⟨RB, _, _, _, _⟩ := h2.rd
  generalize xs.take n = a at RA
  generalize ys.take m = b at RB
  clear h h2 wp
  have T := Lib.hid (fun W (h : Below w.heap.size w W) => law_two p A B n c m d a b W (RA.below (Nat.le_refl w.heap.size) h) (RB.below (Nat.le_refl w.heap.size) h))
  by_cases h0 : Lw.firstI (Lw.polyE p a) (Lw.polyE p b) = 0
  · have ha : Lw.polyE p a = 0 := by
      by_cases h1 : Lw.polyE p a = 0
      · exact h1
      · rw [Lw.firstI_ne _ _ h1] at h0; exact h0
    have hb : Lw.polyE p b = 0 := by rw [ha, Lw.firstI_zero] at h0; exact h0
    rw [h0] at T
    rcases Nat.eq_zero_or_pos m with m0 | m0
    · subst m0
      have X := Lib.hid (poly_Div_nil p A B n c d a b w RA RB h0)
      clear RA RB h0 ha hb
      go_enter Try.func8, Try.ntmps8
      go_wp2_with (first | (go_at_call 30; (with_reducible refine (X.out).mono ?_); rintro e w1 ⟨rfl, hb1⟩) | (go_at_call 22; (with_reducible refine (T.out _ hb1).mono ?_); rintro e w2 ⟨rfl, rfl⟩))
      go_ret
      exact ⟨by simp, hb1⟩
    · have X := Lib.hid (poly_Div_ok p A B n c m d a b w RA RB ha hb m0)
      obtain ⟨p1, p2, pp, l1, b1, z1⟩ := Lw.poly_facts ha
      obtain ⟨_, _, _, l2, b2, z2⟩ := Lw.poly_facts hb
      have la : a.length = n := by have := RA.1; simpa [Lw.intsV] using this
      have lb : b.length = m := by have := RB.1; simpa [Lw.intsV] using this
      have hz := Lw.endZ_top z2 (by omega)
      have i4 := Lw.inv_top p1 p2 pp b2 hz
      have aT := Lw.trim_endZ z1
      have LF := Lib.hid (fun W (h : Below w.heap.size w W) => ref_Left p A B n c m d a b W (RA.below (Nat.le_refl w.heap.size) h) (RB.below (Nat.le_refl w.heap.size) h) b1 b2 p1 p2 pp (by omega) (by omega) m0 hz)
      have RA := Lib.hid RA
      have RB := Lib.hid RB
      have B2 := Lib.hid b2
      have ALL : Hid (∀ (W : World) (e : Ending), Lw.DivR p a b w e W → ∃ (Q R : List Int) (C : Option Addr) (k g : Nat) (D : Option Addr) (l h : Nat), e = .returned (.tuple #[.slice C k g, .slice D l h, .int .i64 0]) ∧ Lw.Rd W 1 C k (Lw.intsV .i64 Q) ∧ Lw.Rd W 1 D l (Lw.intsV .i64 R) ∧ Below w.heap.size w W ∧ k ≤ 13 ∧ l ≤ 13 ∧ Hid (∀ x ∈ Q, 0 ≤ x ∧ x < p) ∧ Hid (∀ x ∈ R, 0 ≤ x ∧ x < p) ∧ Hid (Lw.endZ Q = false) ∧ Hid (Lw.plusL p (Lw.timesK p Q b Q.length) R 1 0 = a) ∧ Hid (Lw.trimL (Lw.leftN p a b (Lw.invR (b.getD (b.length - 1) 0) p) (a.length + 1 - b.length)) = R)) := by
        rintro W e ⟨j, C, k, g, D, l, h, rfl, r1, r2, h1, h2, h3, h4⟩
        have l3 : (Lw.ovN p a b (Lw.invR (b.getD (b.length - 1) 0) p) j).2.length = l := by have := r2.1; simpa [Lw.intsV] using this
        exact ⟨_, _, C, k, g, D, l, h, rfl, r1, r2, h4, by omega, by omega, (Lw.ovN_bd (by omega) b1 j).1, (Lw.ovN_bd (by omega) b1 j).2, Lw.ovN_endZ j, Lw.div_sum (by omega) b1 aT j, Lw.left_end i4 p1 b1 aT (by omega) (by omega) h3⟩
      generalize Lw.trimL (Lw.leftN p a b (Lw.invR (b.getD (b.length - 1) 0) p) (a.length + 1 - b.length)) = out at *
      have m1 : ¬ m = 0 := by omega
      have m13 : m ≤ 13 := by omega
      have n13 : n ≤ 13 := by omega
      have LA := Lib.hid la
      clear h0 ha hb b1 b2 la lb i4 aT z1 z2 hz
      go_enter Try.func8, Try.ntmps8
      go_wp2_with fail
      refine X.out.mono ?_
      intro e w1 hD
      obtain ⟨Q, R, C, k, g, D, l, hh, rfl, RQ, RR, hb1, k13, l13, BQ, BR, ZQ, SUM, EQ⟩ := ALL.out _ _ hD
      clear hD ALL
      rw [EQ.out] at LF
      have RQ := Lib.hid RQ
      have RR := Lib.hid RR
      have lQ : Hid (Q.length = k) := Lib.hid (by have := RQ.out.1; simpa [Lw.intsV] using this)
      go_wp2_with fail
      refine (T.out _ hb1).mono ?_
      rintro e w' ⟨rfl, rfl⟩
      go_wp2_with fail
      go_loop [6, 12, 49] (fun r x i => ∃ t : Nat, i = .int .i64 (t : Int) ∧ t ≤ k) (fun _ _ i => k - (intOf i).toNat)
      case atStart => exact ⟨0, rfl, by omega⟩
      case round =>
        obtain ⟨t, rfl, k1⟩ := hrel
        by_cases hlt : t < k
        · have hl : t < Q.length := by rw [lQ.out]; exact hlt
          obtain ⟨ad, rfl, had, hcell⟩ := RQ.out.at1 hlt (Lw.intsV_get hl)
          obtain ⟨q1, q2⟩ := BQ.out _ (List.getElem_mem hl)
          obtain ⟨x, hx⟩ : ∃ x, Q[t] = x := ⟨_, rfl⟩
          rw [hx] at hcell q1 q2
          clear hx hl
          go_wp2
          go_round
          case rel => refine ⟨_, _, _, ⟨t + 1, ?_, by omega⟩, rfl, rfl, rfl⟩; go_num
          case measure => simp [intOf]; omega
        · have hk : t = k := by omega
          subst hk
          have MU := Lib.hid (fun W (h : Below w1.heap.size w1 W) => ref_Mul p C B t g m d Q b W (RQ.out.below (Nat.le_refl w1.heap.size) h) (RB.out.below (Nat.le_refl w.heap.size) (Lw.bt hb1 h)) BQ.out B2.out p1 p2 (by omega) (by omega))
          have TB := Lib.hid (Lw.timesK_bd (by omega : 0 < p) (a := Q) (b := b) Q.length)
          have TL : Hid ((Lw.timesK p Q b Q.length).length ≤ 39) := by
            have h1 := Lw.timesK_len (p := p) (a := Q) (b := b) Q.length
            have h2 := lQ.out
            have h3 : b.length = m := by have := RB.out.1; simpa [Lw.intsV] using this
            unfold Hid
            omega
          have AD := Lib.hid (fun W (h : Below w1.heap.size w1 W) C' k' g' (R' : Lw.Rd W 1 C' k' (Lw.intsV .i64 (Lw.timesK p Q b Q.length))) => ref_Add p C' D k' g' l hh (Lw.timesK p Q b Q.length) R W R' (RR.out.below (Nat.le_refl w1.heap.size) h) TB.out BR.out p1 p2 (by have h1 := R'.1; have h2 := TL.out; simp [Lw.intsV] at h1; omega) (by omega))
          rw [SUM.out] at AD
          have L1 : Hid (∀ W, Below w1.heap.size w1 W → ∀ C' k' g', Lw.Rd W 1 C' k' (Lw.intsV .i64 R) → Calls Try.prog 23 #[.slice D l hh, .slice C' k' g'] W fun e w' => e = .returned (.bool true) ∧ ∃ d, w' = W.drewN d) := by
            intro W h C' k' g' R'
            have e : k' = l := by have h1 := R'.1; have h2 := RR.out.1; omega
            subst e
            exact ref_Longs k' hh g' D C' R W (RR.out.below (Nat.le_refl w1.heap.size) h) R' (by omega)
          have L2 : Hid (∀ W, Below w.heap.size w W → ∀ C' k' g', Lw.Rd W 1 C' k' (Lw.intsV .i64 a) → Calls Try.prog 23 #[.slice C' k' g', .slice A n c] W fun e w' => e = .returned (.bool true) ∧ ∃ d, w' = W.drewN d) := by
            intro W h C' k' g' R'
            have e : k' = n := by have h1 := R'.1; have h2 := RA.out.1; omega
            subst e
            exact ref_Longs k' g' c C' A a W R' (RA.out.below (Nat.le_refl w.heap.size) h) (by have := LA.out; omega)
          have KL := Lib.hid (fun W C' k' (R' : Lw.Rd W 1 C' k' (Lw.intsV .i64 R)) => (show k' = l from (by have h1 := R'.1; have h2 := RR.out.1; omega)))
          have KA := Lib.hid (fun W C' k' (R' : Lw.Rd W 1 C' k' (Lw.intsV .i64 a)) => (show k' = n from (by have h1 := R'.1; have h2 := RA.out.1; omega)))
          rcases Nat.eq_zero_or_pos t with t0 | t0
          · have ht := t0
            subst ht
            clear X T RA
            clear RQ RB lQ BQ B2 LA TB TL RR BR ZQ SUM EQ m13 n13 pp
            go_wp2_with fail
            refine (LF.out _ hb1).mono ?_
            rintro e w2 ⟨C2, k2, g2, rfl, R2, hg2, hb2⟩
            have LG := Lib.hid (L1.out _ hb2 _ _ g2 R2)
            have hk2 := KL.out _ _ _ R2
            subst hk2
            clear R2
            go_wp2_with fail
            refine LG.out.mono ?_
            rintro e w3 ⟨rfl, dd, rfl⟩
            have hb3 := Lw.bdrewN hb2 dd
            go_wp2_with fail
            refine (MU.out _ hb3).mono ?_
            rintro e w4 ⟨C4, k4, g4, rfl, R4, hg4, hb4⟩
            have hb4' := Lw.bt hb3 hb4
            have AG := Lib.hid (AD.out _ hb4' _ _ g4 R4)
            clear R4
            go_wp2_with fail
            refine AG.out.mono ?_
            rintro e w5 ⟨C5, k5, g5, rfl, R5, hg5, hb5⟩
            have hb5' := Lw.bt hb4' hb5
            have LG2 := Lib.hid (L2.out _ (Lw.bt hb1 hb5') _ _ g5 R5)
            have hk5 := KA.out _ _ _ R5
            subst hk5
            clear R5
            go_wp2_with fail
            refine LG2.out.mono ?_
            rintro e w6 ⟨rfl, dd2, rfl⟩
            go_wp2_with fail
            go_ret
            exact ⟨rfl, Lw.bdrewN (Lw.bt hb1 hb5') _⟩
          · obtain ⟨t, rfl⟩ : ∃ z, t = z + 1 := ⟨t - 1, by omega⟩
            obtain ⟨hlz, Z⟩ := Lw.endZ_last lQ.out
            have ZQ1 := ZQ.out
            rw [Z] at ZQ1
            obtain ⟨ad, rfl, had, hcell⟩ := RQ.out.at1 (by omega : t < t + 1) (Lw.intsV_get hlz)
            obtain ⟨x, hx⟩ : ∃ x, Q[t] = x := ⟨_, rfl⟩
            rw [hx] at hcell ZQ1
            clear hx Z
            clear X T RA
            clear RQ RB lQ BQ B2 LA TB TL RR BR ZQ SUM EQ m13 n13 pp
            go_wp2_with fail
            refine (LF.out _ hb1).mono ?_
            rintro e w2 ⟨C2, k2, g2, rfl, R2, hg2, hb2⟩
            have LG := Lib.hid (L1.out _ hb2 _ _ g2 R2)
            have hk2 := KL.out _ _ _ R2
            subst hk2
            clear R2
            have hcell2 := (hb2.cell (by rw [Lw.add_block]; exact had)).trans hcell
            go_wp2_with fail
            refine LG.out.mono ?_
            rintro e w3 ⟨rfl, dd, rfl⟩
            have hb3 := Lw.bdrewN hb2 dd
            have hcell3 : (w2.drewN dd).cell? _ = _ := hcell2
            go_wp2_with fail
            refine (MU.out _ hb3).mono ?_
            rintro e w4 ⟨C4, k4, g4, rfl, R4, hg4, hb4⟩
            have hb4' := Lw.bt hb3 hb4
            have AG := Lib.hid (AD.out _ hb4' _ _ g4 R4)
            clear R4
            go_wp2_with fail
            refine AG.out.mono ?_
            rintro e w5 ⟨C5, k5, g5, rfl, R5, hg5, hb5⟩
            have hb5' := Lw.bt hb4' hb5
            have LG2 := Lib.hid (L2.out _ (Lw.bt hb1 hb5') _ _ g5 R5)
            have hk5 := KA.out _ _ _ R5
            subst hk5
            clear R5
            go_wp2_with fail
            refine LG2.out.mono ?_
            rintro e w6 ⟨rfl, dd2, rfl⟩
            go_wp2_with fail
            go_ret
            exact ⟨rfl, Lw.bdrewN (Lw.bt hb1 hb5') _⟩
  · have X := Lib.hid (poly_Div_bad p A B n c m d a b w RA RB h0)
    have h1 : (Lw.firstI (Lw.polyE p a) (Lw.polyE p b) == 0) = false := by simpa using h0
    generalize Lw.firstI (Lw.polyE p a) (Lw.polyE p b) = f at *
    clear RA RB h0
    go_enter Try.func8, Try.ntmps8
    go_wp2_with (first | (go_at_call 30; (with_reducible refine (X.out).mono ?_); rintro e w1 ⟨rfl, hb1⟩) | (go_at_call 22; (with_reducible refine (T.out _ hb1).mono ?_); rintro e w2 ⟨rfl, rfl⟩))
    go_ret
    exact ⟨by simp, hb1⟩
end Go.Proofs.Ytdofonjbnacmkaa.LW
