/- The law PartsPlays: the gates in shares are the reference's, or the code. -/
import Derived.Test.YtfocpbknckmmaaaKPartsPlays10
import Derived.Test.YtfocpbknckmmaaaKPartsPlays1
import Derived.Test.YtfocpbknckmmaaaKPartsPlays4
set_option linter.unusedVariables false
namespace Lw
open Go Go.RowKit
/-- the law's code, over the random numbers -/
def rnS (p x0 : Int) (rs : List Int) : Nat → Int
  | 0 => x0
  | k + 1 => if rs.getD k 0 < 0 ∨ p ≤ rs.getD k 0 then 2 else rnS p x0 rs k
theorem rnS_eq {p x0 : Int} {rs : List Int} : ∀ k, k ≤ rs.length → rnS p x0 rs k = if outR p (rs.take k) = true then 2 else x0
  | 0, _ => rfl
  | k + 1, hk => by
    show (if rs.getD k 0 < 0 ∨ p ≤ rs.getD k 0 then 2 else rnS p x0 rs k) = _
    rw [rnS_eq k (by omega)]
    have e : outR p (rs.take (k + 1)) = (outR p (rs.take k) || (decide (rs.getD k 0 < 0) || decide (p ≤ rs.getD k 0))) := by
      unfold outR
      rw [List.take_succ_eq_append_getElem (by omega), List.any_append, getD_at (by omega)]; simp
    rw [e]
    cases h1 : outR p (rs.take k) with
    | true => simp
    | false => simp
end Lw
namespace Go.Proofs.Ytfocpbknckmmaaa.LW
open Go.RowKit
set_option maxRecDepth 100000 in
set_option maxHeartbeats 4000000 in
theorem PartsPlays (p t : Int) (A : Option Addr) (n c : Nat) (B : Option Addr) (m d : Nat) (ys : List Int) (C : Option Addr) (k f : Nat) (zs : List Int) (w : World) (wp : (Lit.int .i64 p).wf = true) (wt : (Lit.int .i64 t).wf = true) (h : Lw.IsSl w [Lw.IsI .i64, Lw.IsI .i64, Lw.IsI .i64, Lw.IsI .i64] A n c) (h2 : Lw.IsRow .i64 w B m d ys) (h3 : Lw.IsRow .i64 w C k f zs) :
    Calls Try.prog 3 #[.int .i64 p, .int .i64 t, .slice A n c, .slice B m d, .slice C k f] w fun e w' => e = .returned (.bool true) ∧ Below w.heap.size w w' := by
  obtain ⟨gs, RA⟩ := h.gates
  obtain ⟨RB, _, _, _, _⟩ := h2.rd
  obtain ⟨RC, k1, k2, k3, _⟩ := h3.rd
  generalize ys.take m = ins at RB
  generalize zs.take k = rs at RC k2
  have hk : k ≤ 9223372036854775807 := Nat.le_trans k1 k3
  clear h h2 h3 wp wt
  have T := Lib.hid (fun W (h : Below w.heap.size w W) => ref_GatesCheck p A n c gs B m d ins W (RA.below (Nat.le_refl w.heap.size) h) (RB.below (Nat.le_refl w.heap.size) h))
  by_cases h0 : Lw.clrE p gs ins = 0
  · have RE0 := Lw.rnS_eq (p := p) (x0 := if Lw.ParP p t then 0 else 2) (rs := rs) k (by omega)
    rw [List.take_of_length_le (by omega)] at RE0
    have RN : Hid (∀ j, Lw.rnS p (if Lw.ParP p t then 0 else 2) rs (j + 1) = if rs.getD j 0 < 0 ∨ p ≤ rs.getD j 0 then 2 else Lw.rnS p (if Lw.ParP p t then 0 else 2) rs j) := fun _ => rfl
    have R0 : Hid (Lw.rnS p (if Lw.ParP p t then 0 else 2) rs 0 = (if Lw.ParP p t then 0 else 2)) := rfl
    have LC := Lib.hid k2
    have PP := Lib.hid (fun w => ref_PartiesCheck p t w)
    rw [h0] at T
    by_cases h1 : ¬ Lw.ParP p t ∨ Lw.outR p rs = true
    · have X := Lib.hid (parts_Play_range p t A n c gs B m d ins C k f rs w RA RB RC hk h0 h1)
      have RE : Lw.rnS p (if Lw.ParP p t then 0 else 2) rs k = 2 := by
        rw [RE0]
        rcases h1 with h1 | h1
        · rw [if_neg h1]; simp
        · rw [if_pos h1]
      clear RE0 h0 h1
      generalize (if Lw.ParP p t then (0 : Int) else 2) = X0 at *
      have RE := Lib.hid RE
      have RC := Lib.hid RC
      clear RA RB
      go_enter Try.func3, Try.ntmps3
      go_wp2_with fail
      refine X.out.mono ?_
      rintro e w1 ⟨rfl, hb1⟩
      go_wp2_with fail
      refine (T.out _ hb1).mono ?_
      rintro e w2 ⟨rfl, hb2⟩
      have RCW := Lib.hid (RC.out.below (Nat.le_refl _) (Lw.bt hb1 hb2))
      go_wp2_with fail
      refine (PP.out _).mono ?_
      rintro e w3 ⟨rfl, rfl⟩
      go_wp2_with fail
      go_loop [13, 36] (fun x v => ∃ j : Nat, v = .int .i64 (j : Int) ∧ j ≤ k ∧ x = .int .i64 (Lw.rnS p X0 rs j)) (fun _ v => k - (intOf v).toNat)
      case atStart => exact ⟨0, rfl, by omega, by rw [R0.out]⟩
      case round =>
        obtain ⟨j, rfl, hj, rfl⟩ := hrel
        have hjm : j < k ∨ ¬ j < k := by omega
        rcases hjm with hjl | hjl
        · have hjl' : (j : Int) < (k : Int) := by omega
          have jl : j < rs.length := by have := LC.out; omega
          obtain ⟨ad, rfl, had, hcell⟩ := (RCW.out).at1 hjl (Lw.intsV_get jl)
          have NN := RN.out j
          rw [Lw.getD_at' jl] at NN
          obtain ⟨y, hy⟩ : ∃ y, rs[j] = y := ⟨_, rfl⟩
          rw [hy] at hcell NN
          have c1 : y < 0 ∨ (¬ y < 0 ∧ p ≤ y) ∨ (¬ y < 0 ∧ ¬ p ≤ y) := by omega
          clear hy jl had
          rcases c1 with c1 | ⟨c1, c2⟩ | ⟨c1, c2⟩
          · rw [if_pos (.inl c1)] at NN
            have NN := Lib.hid NN
            go_wp2_with fail
            go_round
            case rel => exact ⟨j + 1, by go_num, by omega, by rw [NN.out]⟩
            case measure => simp [intOf]; omega
          · rw [if_pos (.inr c2)] at NN
            have NN := Lib.hid NN
            go_wp2_with fail
            go_round
            case rel => exact ⟨j + 1, by go_num, by omega, by rw [NN.out]⟩
            case measure => simp [intOf]; omega
          · rw [if_neg (by omega)] at NN
            have NN := Lib.hid NN
            go_wp2_with fail
            go_round
            case rel => exact ⟨j + 1, by go_num, by omega, by rw [NN.out]⟩
            case measure => simp [intOf]; omega
        · have hjl' : ¬ (j : Int) < (k : Int) := by omega
          have hje : j = k := by omega
          rw [hje, RE.out]

          go_wp2_with fail
          go_ret
          exact ⟨by simp, Lw.bt hb1 hb2⟩
    · have h1' : Lw.ParP p t ∧ Lw.outR p rs = false := by
        refine ⟨Classical.byContradiction fun h => h1 (.inl h), ?_⟩
        cases h : Lw.outR p rs with
        | false => rfl
        | true => exact absurd (.inr h) h1
      obtain ⟨hP, hO⟩ := h1'
      rw [hO] at RE0
      rw [if_pos hP] at RE0 RN R0
      simp only [if_pos hP] at PP
      obtain ⟨t, rfl⟩ := Int.eq_ofNat_of_zero_le hP.1
      have X := Lib.hid (parts_Play_ok p t A n c gs B m d ins C k f rs w RA RB RC hk k1 h0 hP hO)
      have Y := Lib.hid (fun W (h : Below w.heap.size w W) => ref_Parts p t A n c gs B m d ins C k f rs W (RA.below (Nat.le_refl w.heap.size) h) (RB.below (Nat.le_refl w.heap.size) h) (RC.below (Nat.le_refl w.heap.size) h) h0 hP hO)
      have t9 : 2 * t + 1 ≤ 1000 := by obtain ⟨_, h2, _⟩ := hP; omega
      have la : gs.length = n := by have := RA.1; rw [Lw.gatesV_length] at this; omega
      have n60 := (Lw.clr_zero h0).2.1
      rw [la] at n60
      have RE : Hid (Lw.rnS p 0 rs k = 0) := Lib.hid (by rw [RE0]; rfl)
      have RC := Lib.hid RC
      clear RA RB h0 h1 hP hO RE0 la
      go_enter Try.func3, Try.ntmps3
      go_wp2_with fail
      refine X.out.mono ?_
      rintro e w1 ⟨wc, b, l, rfl, hS, hb1⟩
      obtain ⟨T1, t1, own1, rows1, _, _⟩ := hS
      obtain ⟨D, g, rfl, _⟩ := Lw.ownsForm own1
      have RW1 : Hid (Lw.RowsR w1 D n (2 * t + 1) (Lw.prT p t ins rs gs n).1) := Lib.hid ⟨T1, t1, Lw.Rd.of_own own1, fun j hj => Lw.Rd.of_own (rows1 j hj)⟩
      clear own1 rows1
      go_wp2_with fail
      refine (T.out _ hb1).mono ?_
      rintro e w2 ⟨rfl, hb2⟩
      have RCW := Lib.hid (RC.out.below (Nat.le_refl _) (Lw.bt hb1 hb2))
      go_wp2_with fail
      refine (PP.out _).mono ?_
      rintro e w3 ⟨rfl, rfl⟩
      go_wp2_with fail
      go_loop [13, 36] (fun x v => ∃ j : Nat, v = .int .i64 (j : Int) ∧ j ≤ k ∧ x = .int .i64 (Lw.rnS p 0 rs j)) (fun _ v => k - (intOf v).toNat)
      case atStart => exact ⟨0, rfl, by omega, by rw [R0.out]⟩
      case round =>
        obtain ⟨j, rfl, hj, rfl⟩ := hrel
        have hjm : j < k ∨ ¬ j < k := by omega
        rcases hjm with hjl | hjl
        · have hjl' : (j : Int) < (k : Int) := by omega
          have jl : j < rs.length := by have := LC.out; omega
          obtain ⟨ad, rfl, had, hcell⟩ := (RCW.out).at1 hjl (Lw.intsV_get jl)
          have NN := RN.out j
          rw [Lw.getD_at' jl] at NN
          obtain ⟨y, hy⟩ : ∃ y, rs[j] = y := ⟨_, rfl⟩
          rw [hy] at hcell NN
          have c1 : y < 0 ∨ (¬ y < 0 ∧ p ≤ y) ∨ (¬ y < 0 ∧ ¬ p ≤ y) := by omega
          clear hy jl had
          rcases c1 with c1 | ⟨c1, c2⟩ | ⟨c1, c2⟩
          · rw [if_pos (.inl c1)] at NN
            have NN := Lib.hid NN
            go_wp2_with fail
            go_round
            case rel => exact ⟨j + 1, by go_num, by omega, by rw [NN.out]⟩
            case measure => simp [intOf]; omega
          · rw [if_pos (.inr c2)] at NN
            have NN := Lib.hid NN
            go_wp2_with fail
            go_round
            case rel => exact ⟨j + 1, by go_num, by omega, by rw [NN.out]⟩
            case measure => simp [intOf]; omega
          · rw [if_neg (by omega)] at NN
            have NN := Lib.hid NN
            go_wp2_with fail
            go_round
            case rel => exact ⟨j + 1, by go_num, by omega, by rw [NN.out]⟩
            case measure => simp [intOf]; omega
        · have hjl' : ¬ (j : Int) < (k : Int) := by omega
          have hje : j = k := by omega
          rw [hje, RE.out]

          have hb12 := Lw.bt hb1 hb2
          go_wp2_with fail
          refine (Y.out _ hb12).mono ?_
          rintro e w4 ⟨l2, rfl, hS2⟩
          obtain ⟨T2, t2, own2, rows2, hb4⟩ := hS2
          obtain ⟨D2, g2, rfl, _⟩ := Lw.ownsForm own2
          have TB := Lib.hid (ref_Table D D2 n g g2 (2 * t + 1) (Lw.prT p t ins rs gs n).1 w4 (RW1.out.below (Lw.bt hb2 hb4)) ⟨T2, t2, Lw.Rd.of_own own2, fun j hj => Lw.Rd.of_own (rows2 j hj)⟩ (by omega) t9)
          clear own2 rows2
          go_wp2_with fail
          refine TB.out.mono ?_
          rintro e w5 ⟨rfl, hb5⟩
          go_wp2_with fail
          go_ret
          exact ⟨by simp, Lw.bt (Lw.bt hb12 hb4) hb5⟩
  · have X := Lib.hid (parts_Play_bad p t A n c gs B m d ins C k f w RA RB h0)
    have z : (Lw.clrE p gs ins != 0) = true := by simpa using h0
    have z' : (Lw.clrE p gs ins == 0) = false := by simpa using h0
    generalize Lw.clrE p gs ins = E at *
    clear RA RB RC h0
    go_enter Try.func3, Try.ntmps3
    go_wp2_with fail
    refine X.out.mono ?_
    rintro e w1 ⟨rfl, hb1⟩
    go_wp2_with fail
    refine (T.out _ hb1).mono ?_
    rintro e w2 ⟨rfl, hb2⟩
    go_wp2_with fail
    go_ret
    exact ⟨by simp, Lw.bt hb1 hb2⟩
end Go.Proofs.Ytfocpbknckmmaaa.LW
