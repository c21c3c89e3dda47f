/- The reference's GatesCheck. -/
import Derived.Test.YtkgfaaabhmcdoaaGav
set_option linter.unusedVariables false
set_option linter.unusedSimpArgs false
namespace Go.Proofs.Ytkgfaaabhmcdoaa
open Go.RowKit
set_option maxRecDepth 100000 in
set_option maxHeartbeats 8000000 in
theorem ref_GatesCheck (p : Int) (A : Option Addr) (n c : Nat) (gs : List Lw.GateT) (B : Option Addr) (m d : Nat) (ins : List Int) (w : World) (RA : Lw.Rd w 4 A n (Lw.gatesV gs)) (RB : Lw.Rd w 1 B m (Lw.intsV .i64 ins)) :
    Calls Try.prog 28 #[.int .i64 p, .slice A n c, .slice B m d] w fun e w' => e = .returned (.int .i64 (Lw.clrE p gs ins)) ∧ Below w.heap.size w w' := by
  have la : gs.length = n := by have := RA.1; rw [Lw.gatesV_length] at this; omega
  have lb : ins.length = m := by have := RB.1; simpa [Lw.intsV] using this
  have X := fun w => ref_PrimeCheck p w
  by_cases h1 : Lw.pprE p = 0
  · rw [h1] at X
    replace X := Lib.hid X
    by_cases h2 : 60 < gs.length ∨ 60 < ins.length
    · have E := Lib.hid (Lw.clr_large h1 h2)
      rw [la, lb] at h2
      clear RA RB h1
      rcases (by omega : ((60 : Int) < (n : Int)) ∨ (¬ (60 : Int) < (n : Int) ∧ (60 : Int) < (m : Int))) with h3 | ⟨h3, h4⟩
      all_goals
        clear h2
        go_enter Try.func28, Try.ntmps28
        go_wp2_with (go_at_call 32; (with_reducible refine (X.out _).mono ?_); rintro e w1 ⟨rfl, rfl⟩)
        go_ret
        exact ⟨Lw.ret_int E.out.symm, Below.refl _ _⟩
    · have hn : n ≤ 60 := by omega
      have hm : m ≤ 60 := by omega
      have b1 : ¬ (60 : Int) < (n : Int) := by omega
      have b2 : ¬ (60 : Int) < (m : Int) := by omega
      have EO := Lib.hid (fun ho => Lw.clr_out (p := p) (gs := gs) (ins := ins) h1 h2 ho)
      have EG := Lib.hid (fun ho => Lw.clr_gates (p := p) (gs := gs) (ins := ins) h1 h2 ho)
      have NX := Lib.hid (fun k (h : k < gs.length) h2 => Lw.gsE_next (p := p) (m := ins.length) (gs := gs) (k := k) h h2)
      have BD := Lib.hid (fun k (h : k < gs.length) h2 h3 => Lw.gsE_bad (p := p) (m := ins.length) (gs := gs) (k := k) h h2 h3)
      have G0 : Hid (Lw.gsE p ins.length gs 0 = 0) := rfl
      have GE : Hid (∀ k K A B N, Lw.gateE p k m ⟨K, A, B, N⟩ = if K = 1 then (if 0 ≤ A ∧ A < m then 0 else 3) else if K = 2 then (if 0 ≤ N ∧ N < p then 0 else 2) else if K = 3 ∨ K = 4 then (if (0 ≤ A ∧ A < k) ∧ 0 ≤ B ∧ B < k then 0 else 3) else 6) := fun _ _ _ _ _ => rfl
      have AT := Lib.hid (fun k (h : k < ins.length) hh => Lw.any_take (p := fun x : Int => decide (x < 0) || decide (p ≤ x)) h hh)
      have AA := Lib.hid (fun k (h : k < ins.length) => Lw.any_at (p := fun x : Int => decide (x < 0) || decide (p ≤ x)) h)
      rw [lb] at EG NX BD G0
      have RA := Lib.hid RA
      have RB := Lib.hid RB
      have LA := Lib.hid la
      have LB := Lib.hid lb
      have T0 : Hid (Lw.outR p (ins.take 0) = false) := rfl
      generalize Lw.clrE p gs ins = V at *
      clear h1 h2 la lb
      go_enter Try.func28, Try.ntmps28
      go_wp2_with fail
      refine (X.out _).mono ?_
      rintro e w1 ⟨rfl, rfl⟩
      go_wp2_with fail
      go_loop [9, 27] (fun x i => ∃ k : Nat, i = .int .i64 (k : Int) ∧ k ≤ m ∧ Hid (Lw.outR p (ins.take k) = false)) (fun _ i => m - (intOf i).toNat)
      case atStart => exact ⟨0, rfl, by omega, T0⟩
      case round =>
        obtain ⟨k, rfl, hk, T⟩ := hrel
        by_cases hlt : k < m
        · have hl : k < ins.length := by rw [LB.out]; exact hlt
          obtain ⟨ad, rfl, had, hcell⟩ := RB.out.at1 hlt (Lw.intsV_get hl)
          have N := Lib.hid (AT.out k hl T.out)
          have D := Lib.hid (AA.out k hl)
          obtain ⟨x, hx⟩ : ∃ x, ins[k] = x := ⟨_, rfl⟩
          rw [hx] at hcell N D
          clear hx hl had
          rcases (show x < 0 ∨ (¬ x < 0 ∧ p ≤ x) ∨ (¬ x < 0 ∧ ¬ p ≤ x) by omega) with h0 | ⟨h0, h1⟩ | ⟨h0, h1⟩
          · have EE := Lib.hid (EO.out (D.out (by simp [h0])))
            clear N D
            go_wp2_with fail
            go_ret
            exact ⟨Lw.ret_int EE.out.symm, Below.refl _ _⟩
          · have EE := Lib.hid (EO.out (D.out (by simp [h1])))
            clear N D
            go_wp2_with fail
            go_ret
            exact ⟨Lw.ret_int EE.out.symm, Below.refl _ _⟩
          · have N1 := Lib.hid (N.out (by first | (simp [h0, h1]; done) | (simp [h0, h1]; omega)))
            clear N D
            go_wp2_with fail
            go_round
            case rel => exact ⟨k + 1, by go_num, by omega, N1⟩
            case measure => simp [intOf]; omega
        · have hkm : k = m := by omega
          subst hkm
          have TT : ins.take k = ins := List.take_of_length_le (by rw [LB.out]; omega)
          have E := T.out
          rw [TT] at E
          have E := Lib.hid (EG.out E)
          clear T TT EG EO AT AA T0
          go_wp2_with fail
          go_loopw [10, 11, 41] (fun ii gg i wr => ∃ t : Nat, i = .int .i64 (t : Int) ∧ t ≤ n ∧ Hid (Lw.gsE p k gs t = 0) ∧ Below w.heap.size w wr) (fun _ _ i _ => n - (intOf i).toNat)
          case atStart => exact ⟨0, rfl, by omega, G0, Below.refl _ _⟩
          case round =>
            obtain ⟨t, rfl, ht, H, hB⟩ := hrel
            by_cases htl : t < n
            · have htl' : (t : Int) < (n : Int) := by omega
              have hkl : t < gs.length := by rw [LA.out]; exact htl
              obtain ⟨g0, g1, g2, g3⟩ := Lw.gatesV_get hkl
              obtain ⟨ad, rfl, had, c0, c1, c2, c3⟩ := (RA.out.below (Nat.le_refl _) hB).at4 htl g0 g1 g2 g3
              have NXk := NX.out t hkl H.out
              have BDk := BD.out t hkl H.out
              obtain ⟨⟨K, a, b, N⟩, hg⟩ : ∃ z, gs[t] = z := ⟨_, rfl⟩
              rw [hg] at c0 c1 c2 c3 NXk BDk
              simp only at c0 c1 c2 c3
              rw [GE.out] at NXk BDk
              rw [LA.out] at BDk E
              clear g0 g1 g2 g3 hg hkl had
              rcases (show K < 1 ∨ (¬ K < 1 ∧ 4 < K) ∨ K = 1 ∨ K = 2 ∨ K = 3 ∨ K = 4 by omega) with q0 | ⟨q0, q1⟩ | rfl | rfl | rfl | rfl
              · rw [if_neg (by omega), if_neg (by omega), if_neg (by omega)] at BDk
                have EE := Lib.hid (E.out.trans (BDk (by decide)))
                clear BDk NXk E
                go_wp2_with fail
                go_ret
                exact ⟨Lw.ret_int EE.out.symm, Lw.balloc hB _⟩
              · rw [if_neg (by omega), if_neg (by omega), if_neg (by omega)] at BDk
                have EE := Lib.hid (E.out.trans (BDk (by decide)))
                clear BDk NXk E
                go_wp2_with fail
                go_ret
                exact ⟨Lw.ret_int EE.out.symm, Lw.balloc hB _⟩
              · rcases (show (a < 0) ∨ (¬ a < 0 ∧ (k : Int) ≤ a) ∨ (¬ a < 0 ∧ ¬ (k : Int) ≤ a) by omega) with q0 | ⟨q0, q1⟩ | ⟨q0, q1⟩
                · rw [if_pos rfl, if_neg (by omega)] at BDk
                  have EE := Lib.hid (E.out.trans (BDk (by decide)))
                  clear BDk NXk E
                  go_wp2_with fail
                  go_ret
                  exact ⟨Lw.ret_int EE.out.symm, Lw.balloc hB _⟩
                · rw [if_pos rfl, if_neg (by omega)] at BDk
                  have EE := Lib.hid (E.out.trans (BDk (by decide)))
                  clear BDk NXk E
                  go_wp2_with fail
                  go_ret
                  exact ⟨Lw.ret_int EE.out.symm, Lw.balloc hB _⟩
                · rw [if_pos rfl, if_pos (by omega)] at NXk
                  have NXk := Lib.hid NXk
                  clear BDk
                  go_wp2_with fail
                  go_roundw
                  case rel => exact ⟨t + 1, by go_num, by omega, NXk, Lw.balloc hB _⟩
                  case measure => simp [intOf]; omega
              · rcases (show (N < 0) ∨ (¬ N < 0 ∧ p ≤ N) ∨ (¬ N < 0 ∧ ¬ p ≤ N) by omega) with q0 | ⟨q0, q1⟩ | ⟨q0, q1⟩
                · rw [if_neg (by decide), if_pos rfl, if_neg (by omega)] at BDk
                  have EE := Lib.hid (E.out.trans (BDk (by decide)))
                  clear BDk NXk E
                  go_wp2_with fail
                  go_ret
                  exact ⟨Lw.ret_int EE.out.symm, Lw.balloc hB _⟩
                · rw [if_neg (by decide), if_pos rfl, if_neg (by omega)] at BDk
                  have EE := Lib.hid (E.out.trans (BDk (by decide)))
                  clear BDk NXk E
                  go_wp2_with fail
                  go_ret
                  exact ⟨Lw.ret_int EE.out.symm, Lw.balloc hB _⟩
                · rw [if_neg (by decide), if_pos rfl, if_pos (by omega)] at NXk
                  have NXk := Lib.hid NXk
                  clear BDk
                  go_wp2_with fail
                  go_roundw
                  case rel => exact ⟨t + 1, by go_num, by omega, NXk, Lw.balloc hB _⟩
                  case measure => simp [intOf]; omega
              · rcases (show (a < 0) ∨ (¬ a < 0 ∧ (t : Int) ≤ a) ∨ (¬ a < 0 ∧ ¬ (t : Int) ≤ a ∧ b < 0) ∨ (¬ a < 0 ∧ ¬ (t : Int) ≤ a ∧ ¬ b < 0 ∧ (t : Int) ≤ b) ∨ (¬ a < 0 ∧ ¬ (t : Int) ≤ a ∧ ¬ b < 0 ∧ ¬ (t : Int) ≤ b) by omega) with q0 | ⟨q0, q1⟩ | ⟨q0, q1, q2⟩ | ⟨q0, q1, q2, q3⟩ | ⟨q0, q1, q2, q3⟩
                · rw [if_neg (by decide), if_neg (by decide), if_pos (by decide), if_neg (by omega)] at BDk
                  have EE := Lib.hid (E.out.trans (BDk (by decide)))
                  clear BDk NXk E
                  go_wp2_with fail
                  go_ret
                  exact ⟨Lw.ret_int EE.out.symm, Lw.balloc hB _⟩
                · rw [if_neg (by decide), if_neg (by decide), if_pos (by decide), if_neg (by omega)] at BDk
                  have EE := Lib.hid (E.out.trans (BDk (by decide)))
                  clear BDk NXk E
                  go_wp2_with fail
                  go_ret
                  exact ⟨Lw.ret_int EE.out.symm, Lw.balloc hB _⟩
                · rw [if_neg (by decide), if_neg (by decide), if_pos (by decide), if_neg (by omega)] at BDk
                  have EE := Lib.hid (E.out.trans (BDk (by decide)))
                  clear BDk NXk E
                  go_wp2_with fail
                  go_ret
                  exact ⟨Lw.ret_int EE.out.symm, Lw.balloc hB _⟩
                · rw [if_neg (by decide), if_neg (by decide), if_pos (by decide), if_neg (by omega)] at BDk
                  have EE := Lib.hid (E.out.trans (BDk (by decide)))
                  clear BDk NXk E
                  go_wp2_with fail
                  go_ret
                  exact ⟨Lw.ret_int EE.out.symm, Lw.balloc hB _⟩
                · rw [if_neg (by decide), if_neg (by decide), if_pos (by decide), if_pos (by omega)] at NXk
                  have NXk := Lib.hid NXk
                  clear BDk
                  go_wp2_with fail
                  go_roundw
                  case rel => exact ⟨t + 1, by go_num, by omega, NXk, Lw.balloc hB _⟩
                  case measure => simp [intOf]; omega
              · rcases (show (a < 0) ∨ (¬ a < 0 ∧ (t : Int) ≤ a) ∨ (¬ a < 0 ∧ ¬ (t : Int) ≤ a ∧ b < 0) ∨ (¬ a < 0 ∧ ¬ (t : Int) ≤ a ∧ ¬ b < 0 ∧ (t : Int) ≤ b) ∨ (¬ a < 0 ∧ ¬ (t : Int) ≤ a ∧ ¬ b < 0 ∧ ¬ (t : Int) ≤ b) by omega) with q0 | ⟨q0, q1⟩ | ⟨q0, q1, q2⟩ | ⟨q0, q1, q2, q3⟩ | ⟨q0, q1, q2, q3⟩
                · rw [if_neg (by decide), if_neg (by decide), if_pos (by decide), if_neg (by omega)] at BDk
                  have EE := Lib.hid (E.out.trans (BDk (by decide)))
                  clear BDk NXk E
                  go_wp2_with fail
                  go_ret
                  exact ⟨Lw.ret_int EE.out.symm, Lw.balloc hB _⟩
                · rw [if_neg (by decide), if_neg (by decide), if_pos (by decide), if_neg (by omega)] at BDk
                  have EE := Lib.hid (E.out.trans (BDk (by decide)))
                  clear BDk NXk E
                  go_wp2_with fail
                  go_ret
                  exact ⟨Lw.ret_int EE.out.symm, Lw.balloc hB _⟩
                · rw [if_neg (by decide), if_neg (by decide), if_pos (by decide), if_neg (by omega)] at BDk
                  have EE := Lib.hid (E.out.trans (BDk (by decide)))
                  clear BDk NXk E
                  go_wp2_with fail
                  go_ret
                  exact ⟨Lw.ret_int EE.out.symm, Lw.balloc hB _⟩
                · rw [if_neg (by decide), if_neg (by decide), if_pos (by decide), if_neg (by omega)] at BDk
                  have EE := Lib.hid (E.out.trans (BDk (by decide)))
                  clear BDk NXk E
                  go_wp2_with fail
                  go_ret
                  exact ⟨Lw.ret_int EE.out.symm, Lw.balloc hB _⟩
                · rw [if_neg (by decide), if_neg (by decide), if_pos (by decide), if_pos (by omega)] at NXk
                  have NXk := Lib.hid NXk
                  clear BDk
                  go_wp2_with fail
                  go_roundw
                  case rel => exact ⟨t + 1, by go_num, by omega, NXk, Lw.balloc hB _⟩
                  case measure => simp [intOf]; omega
            · have htn : t = n := by omega
              subst htn
              have E2 : Hid (V = 0) := by have h1 := E.out; rw [LA.out] at h1; rw [h1]; exact H.out
              go_wp2_with fail
              go_ret
              exact ⟨Lw.ret_int E2.out.symm, hB⟩
  · have E := Lib.hid (Lw.clr_ppr (gs := gs) (ins := ins) h1)
    have z : (Lw.pprE p != 0) = true := by simpa using h1
    have z' : (Lw.pprE p == 0) = false := by simpa using h1
    generalize Lw.pprE p = e0 at *
    replace X := Lib.hid X
    clear RA RB h1
    go_enter Try.func28, Try.ntmps28
    go_wp2_with (go_at_call 32; (with_reducible refine (X.out _).mono ?_); rintro e w1 ⟨rfl, rfl⟩)
    go_ret
    exact ⟨Lw.ret_int E.out.symm, Below.refl _ _⟩
end Go.Proofs.Ytkgfaaabhmcdoaa
