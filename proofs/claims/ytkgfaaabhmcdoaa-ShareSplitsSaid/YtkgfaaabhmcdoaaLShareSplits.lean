/- The law ShareSplits: the shares are the reference's, or the code. -/
import Derived.Test.YtkgfaaabhmcdoaaSht
import Derived.Test.YtkgfaaabhmcdoaaRow
set_option linter.unusedVariables false
namespace Go.Proofs.Ytkgfaaabhmcdoaa.LW
open Go.RowKit
set_option maxRecDepth 100000 in
set_option maxHeartbeats 4000000 in
theorem ShareSplits (p sec : Int) (A : Option Addr) (m c : Nat) (xs : List Int) (n : Int) (w : World) (wp : (Lit.int .i64 p).wf = true) (ws : (Lit.int .i64 sec).wf = true) (h : Lw.IsRow .i64 w A m c xs) (wn : (Lit.int .i64 n).wf = true) :
    Calls Try.prog 8 #[.int .i64 p, .int .i64 sec, .slice A m c, .int .i64 n] w fun e w' => e = .returned (.bool true) ∧ Below w.heap.size w w' := by
  obtain ⟨RA, q1, q2, q3, _⟩ := h.rd
  have mx : maxLen ≤ 9223372036854775807 := by decide
  have hmx : m ≤ 9223372036854775807 := by omega
  clear q1 q2 q3 mx
  generalize xs.take m = more at RA
  clear h wp ws wn
  have lm : more.length = m := by have := RA.1; simpa [Lw.intsV] using this
  have PC := fun W => ref_PrimeCheck p W
  by_cases h1 : Lw.pprE p = 0
  · rw [h1] at PC
    replace PC := Lib.hid PC
    obtain ⟨p1, p2, pp⟩ := Lw.ppr_ok h1
    by_cases h2 : m ≤ 12
    · have h2' : ¬ (12 : Int) < (m : Int) := by omega
      by_cases h3 : (0 ≤ sec ∧ sec < p) ∧ 0 ≤ n ∧ n < p
      · obtain ⟨⟨s0, s1⟩, n0, n1⟩ := h3
        have f1 : ¬ sec < 0 := by omega
        have f2 : ¬ p ≤ sec := by omega
        have f3 : ¬ n < 0 := by omega
        have f4 : ¬ p ≤ n := by omega
        cases ho : Lw.outR p more with
        | false =>
          have ho2 : Lw.outR p (sec :: more) = false := by
            unfold Lw.outR at ho ⊢
            rw [List.any_cons, ho]; simp; omega
          obtain ⟨k, rfl⟩ := Int.eq_ofNat_of_zero_le n0
          have X := Lib.hid (share_Split_ok p sec k A m c more w RA h1 h2 ho2 n1)
          have Y := Lib.hid (fun W (hb : Below w.heap.size w W) => ref_Split p sec k A m c more W (RA.below (Nat.le_refl w.heap.size) hb) p1 p2 h2 s0 s1 (Lw.outR_in ho) n1)
          have PT := Lib.hid (fun C C' g g' W (R : Lw.Rd W 2 C k (Lw.pairsV .i64 .i64 (Lw.ptsL p (sec :: more) k))) (R' : Lw.Rd W 2 C' k (Lw.pairsV .i64 .i64 (Lw.ptsL p (sec :: more) k))) => ref_Points k g g' C C' _ W R R' (by omega))
          have ZB := Lib.hid (Lw.outR_in ho)
          have RA := Lib.hid RA
          have LM := Lib.hid lm
          clear h1 ho ho2 pp lm
          go_enter Try.func8, Try.ntmps8
          go_wp2_with fail
          refine X.out.mono ?_
          intro e w1 hX
          obtain ⟨C, g, rfl, R1, hb1⟩ := hX
          have RW := Lib.hid (RA.out.below (Nat.le_refl _) hb1)
          have R1 := Lib.hid R1
          go_wp2_with fail
          refine (PC.out _).mono ?_
          rintro e w' ⟨rfl, rfl⟩
          go_wp2_with fail
          go_loop [11, 13, 53] (fun x cc i => ∃ j : Nat, i = .int .i64 (j : Int) ∧ j ≤ m ∧ x = .int .i64 0) (fun _ _ i => m - (intOf i).toNat)
          case atStart => exact ⟨0, rfl, by omega, rfl⟩
          case round =>
            obtain ⟨j, rfl, hj, rfl⟩ := hrel
            by_cases hjl : j < m
            · have hl : j < more.length := by rw [LM.out]; exact hjl
              obtain ⟨ad, rfl, had, hcell⟩ := RW.out.at1 hjl (Lw.intsV_get hl)
              obtain ⟨c1, c2⟩ := ZB.out _ (List.getElem_mem hl)
              obtain ⟨cv, hc⟩ : ∃ z, more[j] = z := ⟨_, rfl⟩
              rw [hc] at hcell c1 c2
              have g1 : ¬ cv < 0 := by omega
              have g2 : ¬ p ≤ cv := by omega
              clear hc hl had
              go_wp2_with fail
              go_round
              case rel => exact ⟨j + 1, by go_num, by omega, rfl⟩
              case measure => simp [intOf]; omega
            · have hjm : j = m := by omega
              subst hjm
              have YY := Lib.hid (Y.out w1 hb1)
              clear X Y
              go_wp2_with fail
              refine YY.out.mono ?_
              intro e w2 hY
              obtain ⟨C2, g2, rfl, R2, hb2⟩ := hY
              have PP := Lib.hid (PT.out C C2 g g2 w2 (R1.out.below (Nat.le_refl _) hb2) R2)
              clear R2
              go_wp2_with fail
              refine PP.out.mono ?_
              rintro e w3 ⟨rfl, dd, rfl⟩
              go_wp2_with fail
              go_ret
              exact ⟨by simp, Lw.bdrewN (Lw.bt hb1 hb2) _⟩
        | true =>
          have X := Lib.hid (share_Split_range p sec n A m c more w RA h1 h2 (.inl (by unfold Lw.outR at ho ⊢; rw [List.any_cons, ho]; simp)))
          have T0 : Hid (Lw.outR p (more.take 0) = false) := rfl
          have AT := Lib.hid (fun k (h : k < more.length) hh => Lw.any_take (p := fun x : Int => decide (x < 0) || decide (p ≤ x)) h hh)
          have RA := Lib.hid RA
          have LM := Lib.hid lm
          have HO := Lib.hid ho
          clear h1 ho pp lm
          go_enter Try.func8, Try.ntmps8
          go_wp2_with fail
          refine X.out.mono ?_
          rintro e w1 ⟨rfl, hb1⟩
          have RW := Lib.hid (RA.out.below (Nat.le_refl _) hb1)
          go_wp2_with fail
          refine (PC.out _).mono ?_
          rintro e w' ⟨rfl, rfl⟩
          go_wp2_with fail
          go_loop [11, 13, 53] (fun x cc i => ∃ j : Nat, ∃ E : Int, i = .int .i64 (j : Int) ∧ j ≤ m ∧ x = .int .i64 E ∧ Hid ((E = 2 ∧ True) ∨ (E = 0 ∧ Lw.outR p (more.take j) = false))) (fun _ _ i => m - (intOf i).toNat)
          case atStart => exact ⟨0, 0, rfl, by omega, rfl, .inr ⟨rfl, rfl⟩⟩
          case round =>
            obtain ⟨j, E, rfl, hj, rfl, HE⟩ := hrel
            by_cases hjl : j < m
            · have hl : j < more.length := by rw [LM.out]; exact hjl
              obtain ⟨ad, rfl, had, hcell⟩ := RW.out.at1 hjl (Lw.intsV_get hl)
              have N := AT.out j hl
              obtain ⟨cv, hc⟩ : ∃ z, more[j] = z := ⟨_, rfl⟩
              rw [hc] at hcell N
              rcases HE.out with ⟨rfl, _⟩ | ⟨rfl, T⟩
              · clear hc hl had HE N
                go_wp2_with fail
                go_round
                case rel => exact ⟨j + 1, 2, by go_num, by omega, rfl, .inl ⟨rfl, trivial⟩⟩
                case measure => simp [intOf]; omega
              · rcases (show cv < 0 ∨ (¬ cv < 0 ∧ p ≤ cv) ∨ (¬ cv < 0 ∧ ¬ p ≤ cv) by omega) with g1 | ⟨g1, g2⟩ | ⟨g1, g2⟩
                · clear hc hl had HE N T
                  go_wp2_with fail
                  go_round
                  case rel => exact ⟨j + 1, 2, by go_num, by omega, rfl, .inl ⟨rfl, trivial⟩⟩
                  case measure => simp [intOf]; omega
                · clear hc hl had HE N T
                  go_wp2_with fail
                  go_round
                  case rel => exact ⟨j + 1, 2, by go_num, by omega, rfl, .inl ⟨rfl, trivial⟩⟩
                  case measure => simp [intOf]; omega
                · have N1 : Hid (Lw.outR p (more.take (j + 1)) = false) := N T (by first | (simp [g1, g2]; done) | (simp [g1, g2]; omega))
                  clear hc hl had HE N T
                  go_wp2_with fail
                  go_round
                  case rel => exact ⟨j + 1, 0, by go_num, by omega, rfl, .inr ⟨rfl, N1.out⟩⟩
                  case measure => simp [intOf]; omega
            · have hE : E = 2 := by
                rcases HE.out with ⟨h, _⟩ | ⟨_, T⟩
                · exact h
                · rw [List.take_of_length_le (by rw [LM.out]; omega), HO.out] at T; cases T
              subst hE
              clear HE
              go_wp2_with fail
              go_ret
              exact ⟨by simp, hb1⟩
      · have X := Lib.hid (share_Split_range p sec n A m c more w RA h1 h2 (by
          by_cases hs : 0 ≤ sec ∧ sec < p
          · right; omega
          · left; unfold Lw.outR; rw [List.any_cons]; simp; left; omega))
        have RA := Lib.hid RA
        have LM := Lib.hid lm
        have hc4 : sec < 0 ∨ (¬ sec < 0 ∧ p ≤ sec) ∨ (¬ sec < 0 ∧ ¬ p ≤ sec ∧ n < 0) ∨ (¬ sec < 0 ∧ ¬ p ≤ sec ∧ ¬ n < 0 ∧ p ≤ n) := by omega
        clear h1 pp lm h3
        rcases hc4 with f1 | ⟨f1, f2⟩ | ⟨f1, f2, f3⟩ | ⟨f1, f2, f3, f4⟩
        all_goals
          go_enter Try.func8, Try.ntmps8
          go_wp2_with fail
          refine X.out.mono ?_
          rintro e w1 ⟨rfl, hb1⟩
          have RW := Lib.hid (RA.out.below (Nat.le_refl _) hb1)
          go_wp2_with fail
          refine (PC.out _).mono ?_
          rintro e w' ⟨rfl, rfl⟩
          go_wp2_with fail
          go_loop [11, 13, 53] (fun x cc i => ∃ j : Nat, i = .int .i64 (j : Int) ∧ j ≤ m ∧ x = .int .i64 2) (fun _ _ i => m - (intOf i).toNat)
          case atStart => exact ⟨0, rfl, by omega, rfl⟩
          case round =>
            obtain ⟨j, rfl, hj, rfl⟩ := hrel
            by_cases hjl : j < m
            · have hl : j < more.length := by rw [LM.out]; exact hjl
              obtain ⟨ad, rfl, had, hcell⟩ := RW.out.at1 hjl (Lw.intsV_get hl)
              obtain ⟨cv, hc⟩ : ∃ z, more[j] = z := ⟨_, rfl⟩
              rw [hc] at hcell
              clear hc hl had
              go_wp2_with fail
              go_round
              case rel => exact ⟨j + 1, by go_num, by omega, rfl⟩
              case measure => simp [intOf]; omega
            · go_wp2_with fail
              go_ret
              exact ⟨by simp, hb1⟩
    · have X := Lib.hid (share_Split_long p sec n A m c w h1 (by omega))
      have h2' : (12 : Int) < (m : Int) := by omega
      have RA := Lib.hid RA
      have LM := Lib.hid lm
      clear h1 pp lm
      go_enter Try.func8, Try.ntmps8
      go_wp2_with fail
      refine X.out.mono ?_
      rintro e w1 ⟨rfl, hb1⟩
      have RW := Lib.hid (RA.out.below (Nat.le_refl _) hb1)
      go_wp2_with fail
      refine (PC.out _).mono ?_
      rintro e w' ⟨rfl, rfl⟩
      go_wp2_with fail
      go_loop [11, 13, 53] (fun x cc i => ∃ j : Nat, i = .int .i64 (j : Int) ∧ j ≤ m ∧ x = .int .i64 1) (fun _ _ i => m - (intOf i).toNat)
      case atStart => exact ⟨0, rfl, by omega, rfl⟩
      case round =>
        obtain ⟨j, rfl, hj, rfl⟩ := hrel
        by_cases hjl : j < m
        · have hl : j < more.length := by rw [LM.out]; exact hjl
          obtain ⟨ad, rfl, had, hcell⟩ := RW.out.at1 hjl (Lw.intsV_get hl)
          obtain ⟨cv, hc⟩ : ∃ z, more[j] = z := ⟨_, rfl⟩
          rw [hc] at hcell
          clear hc hl had
          go_wp2_with fail
          go_round
          case rel => exact ⟨j + 1, by go_num, by omega, rfl⟩
          case measure => simp [intOf]; omega
        · go_wp2_with fail
          go_ret
          exact ⟨by simp, hb1⟩
  · have X := Lib.hid (share_Split_ppr p sec n A m c w h1)
    have z : (Lw.pprE p == 0) = false := by simpa using h1
    have z' : (Lw.pprE p != 0) = true := by simpa using h1
    generalize Lw.pprE p = E at *
    replace PC := Lib.hid PC
    have RA := Lib.hid RA
    have LM := Lib.hid lm
    clear lm
    go_enter Try.func8, Try.ntmps8
    go_wp2_with fail
    refine X.out.mono ?_
    rintro e w1 ⟨rfl, hb1⟩
    have RW := Lib.hid (RA.out.below (Nat.le_refl _) hb1)
    go_wp2_with fail
    refine (PC.out _).mono ?_
    rintro e w' ⟨rfl, rfl⟩
    go_wp2_with fail
    go_loop [11, 13, 53] (fun x cc i => ∃ j : Nat, i = .int .i64 (j : Int) ∧ j ≤ m ∧ x = .int .i64 E) (fun _ _ i => m - (intOf i).toNat)
    case atStart => exact ⟨0, rfl, by omega, rfl⟩
    case round =>
      obtain ⟨j, rfl, hj, rfl⟩ := hrel
      by_cases hjl : j < m
      · have hl : j < more.length := by rw [LM.out]; exact hjl
        obtain ⟨ad, rfl, had, hcell⟩ := RW.out.at1 hjl (Lw.intsV_get hl)
        obtain ⟨cv, hc⟩ : ∃ z, more[j] = z := ⟨_, rfl⟩
        rw [hc] at hcell
        clear hc hl had
        go_wp2_with fail
        go_round
        case rel => exact ⟨j + 1, by go_num, by omega, rfl⟩
        case measure => simp [intOf]; omega
      · go_wp2_with fail
        go_ret
        exact ⟨by simp, hb1⟩
end Go.Proofs.Ytkgfaaabhmcdoaa.LW
