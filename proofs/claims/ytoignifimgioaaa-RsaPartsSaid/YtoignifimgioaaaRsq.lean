/- rsa.Parts: the walk. -/
import Derived.Test.YtoignifimgioaaaRsp
set_option linter.unusedVariables false
set_option linter.unusedSimpArgs false
namespace Go.Proofs.Ytoignifimgioaaa
open Go.RowKit
theorem rsa_Parts_key (p q n e d x : Int) (w : World) (h : ¬ Lw.keyI n e d x = 0) :
    Calls Try.prog 39 #[.int .i64 p, .int .i64 q, .agg #[.int .i64 n, .int .i64 e, .int .i64 d], .int .i64 x] w fun r w' => r = .returned (.tuple #[.int .i64 0, .int .i64 (Lw.keyI n e d x)]) ∧ Below w.heap.size w w' := by
  have T := fun w => rsa_Open n e d x w
  have h1 : (Lw.keyI n e d x == 0) = false := by simpa using h
  obtain ⟨E, hE⟩ : ∃ E, Lw.keyI n e d x = E := ⟨_, rfl⟩
  rw [hE] at T h1
  rw [hE]
  replace T := Lib.hid T
  clear h hE
  go_enter Try.func39, Try.ntmps39
  go_wp2_with (go_at_call 64; (with_reducible refine (T.out _).mono ?_); rintro e w1 ⟨rfl, hb1⟩)
  go_ret2
  exact ⟨rfl, by (repeat (first | exact Below.refl _ _ | refine Lw.bt ?_ (by assumption) | refine Lw.balloc ?_ _ | refine Lw.bdrewN ?_ _ | refine Below.drew ?_ | refine Lw.bset ?_ (by first | (simp; done) | (simp; omega) | omega) _))⟩
set_option maxHeartbeats 1000000 in
theorem rsa_Parts_arg (p q n e d x : Int) (w : World) (h : Lw.keyI n e d x = 0) (h2 : ¬ (p ≤ 1048576 ∧ q ≤ 1048576 ∧ Lw.twoB p q = true ∧ p * q = n)) :
    Calls Try.prog 39 #[.int .i64 p, .int .i64 q, .agg #[.int .i64 n, .int .i64 e, .int .i64 d], .int .i64 x] w fun r w' => r = .returned (.tuple #[.int .i64 0, .int .i64 3]) ∧ Below w.heap.size w w' := by
  have T := fun w => rsa_Open n e d x w
  rw [h] at T
  replace T := Lib.hid T
  have B0 := Lib.hid (Lw.blk_new w #[.int .i64 n, .int .i64 e, .int .i64 d] 54)
  by_cases h3 : p ≤ 1048576 ∧ q ≤ 1048576
  · have TW := fun w => rsa_two' p q w h3.1 h3.2
    obtain ⟨p2, q2⟩ := h3
    rcases ht : Lw.twoB p q with _ | _
    · rw [ht] at TW
      replace TW := Lib.hid TW
      clear ht h2
      go_enter Try.func39, Try.ntmps39
      go_wp2_with (first | (go_at_call 64; (with_reducible refine (T.out _).mono ?_); rintro e w1 ⟨rfl, hb1⟩) | (go_at_call 59; (with_reducible refine (TW.out _).mono ?_); rintro e w2 ⟨rfl, hb2⟩))
      all_goals
        go_ret2
        exact ⟨rfl, by (repeat (first | exact Below.refl _ _ | refine Lw.bt ?_ (by assumption) | refine Lw.balloc ?_ _ | refine Lw.bdrewN ?_ _ | refine Below.drew ?_ | refine Lw.bset ?_ (by first | (simp; done) | (simp; omega) | omega) _))⟩
    · rw [ht] at TW
      replace TW := Lib.hid TW
      obtain ⟨_, _, _, P2, Q2⟩ := Lw.two_facts ht
      obtain ⟨m0, m1⟩ := Lw.mul_bd' p q 1048576 (by omega) p2 (by omega) q2
      have e1 : IntKind.i64.wrap (p * q) = p * q := by rw [IntKind.wrap_i64]; omega
      have e2 : (p * q == n) = false := by simpa using fun hh => h2 ⟨p2, q2, ht, hh⟩
      have e3 : (p * q != n) = true := by simp [bne, e2]
      clear ht h2
      go_enter Try.func39, Try.ntmps39
      go_wp2_with fail
      refine (T.out _).mono ?_
      rintro e w1 ⟨rfl, hb1⟩
      have C0 := (hb1.block w.heap.size (by simp)).trans B0.out
      have hz1 := hb1.size
      simp at hz1
      go_wp2_with fail
      all_goals
        refine (TW.out _).mono ?_
        rintro e w2 ⟨rfl, hb2⟩
        have C2 := (hb2.block w.heap.size (by omega)).trans C0
        have l0 := Lw.blk_cell C2 0
        simp at l0
        clear C0 C2
        go_wp2_with fail
        all_goals (try (exfalso; omega))
        go_ret2
        exact ⟨rfl, by (repeat (first | exact Below.refl _ _ | refine Lw.bt ?_ (by assumption) | refine Lw.balloc ?_ _ | refine Lw.bdrewN ?_ _ | refine Below.drew ?_ | refine Lw.bset ?_ (by first | (simp; done) | (simp; omega) | omega) _))⟩
  · have hc : (p < q ∧ 1048576 < q) ∨ (q ≤ p ∧ 1048576 < p) := by omega
    clear h2 h3
    rcases hc with ⟨h1, h2⟩ | ⟨h1, h2⟩
    all_goals
      go_enter Try.func39, Try.ntmps39
      go_wp2_with (go_at_call 64; (with_reducible refine (T.out _).mono ?_); rintro e w1 ⟨rfl, hb1⟩)
      go_ret2
      exact ⟨rfl, by (repeat (first | exact Below.refl _ _ | refine Lw.bt ?_ (by assumption) | refine Lw.balloc ?_ _ | refine Lw.bdrewN ?_ _ | refine Below.drew ?_ | refine Lw.bset ?_ (by first | (simp; done) | (simp; omega) | omega) _))⟩
set_option maxHeartbeats 2000000 in
theorem rsa_Parts_ok (p q n e d x : Int) (w : World) (h : Lw.keyI n e d x = 0) (ht : Lw.twoB p q = true) (p2 : p ≤ 1048576) (q2 : q ≤ 1048576) (hn : p * q = n) :
    Calls Try.prog 39 #[.int .i64 p, .int .i64 q, .agg #[.int .i64 n, .int .i64 e, .int .i64 d], .int .i64 x] w fun r w' => r = .returned (.tuple #[.int .i64 (Lw.pw x d n), .int .i64 0]) ∧ Below w.heap.size w w' := by
  have T := fun w => rsa_Open n e d x w
  rw [h] at T
  replace T := Lib.hid T
  have B0 := Lib.hid (Lw.blk_new w #[.int .i64 n, .int .i64 e, .int .i64 d] 54)
  have TW := fun w => rsa_two' p q w p2 q2
  rw [ht] at TW
  replace TW := Lib.hid TW
  have kb : 1 ≤ n ∧ n ≤ 1048576 ∧ 1 ≤ d ∧ d ≤ 2147483648 ∧ 0 ≤ x ∧ x < n := by
    by_cases hb : n < 1 ∨ 1048576 < n ∨ e < 1 ∨ 2147483648 < e ∨ d < 1 ∨ 2147483648 < d ∨ x < 0 ∨ n ≤ x
    · unfold Lw.keyI at h; rw [if_pos hb] at h; omega
    · omega
  obtain ⟨n1, n2, d1, d2, x1, x2⟩ := kb
  obtain ⟨_, _, _, P2, Q2⟩ := Lw.two_facts ht
  obtain ⟨PE, PF, PL, PA⟩ := Lw.parts_rest (p := p) (q := q) (n := n) (d := d) (y := x) ⟨by omega, p2, by omega, q2, ht, hn⟩ n2 x1 d1
  have PE := Lib.hid PE; have PF := Lib.hid PF; have PL := Lib.hid PL; have PA := Lib.hid PA
  have e1 : IntKind.i64.wrap (p * q) = n := by rw [hn, IntKind.wrap_i64]; omega
  have I0 := fun W => Lw.run_index_arr (P := Try.prog) (k := .i64) (cs := #[.int .i64 p, .int .i64 q]) Try.underlying91 Try.underlying2 (by kernel_rfl) 0 (by decide) rfl W
  have I1 := fun W => Lw.run_index_arr (P := Try.prog) (k := .i64) (cs := #[.int .i64 p, .int .i64 q]) Try.underlying91 Try.underlying2 (by kernel_rfl) 1 (by decide) rfl W
  simp only [Int.natCast_zero, Int.natCast_one] at I0 I1
  have rp0 := Int.emod_nonneg d (by omega : p - 1 ≠ 0)
  have rp1 := Int.emod_lt_of_pos d (by omega : 0 < p - 1)
  have rq0 := Int.emod_nonneg d (by omega : q - 1 ≠ 0)
  have rq1 := Int.emod_lt_of_pos d (by omega : 0 < q - 1)
  have tp : d.tmod (p - 1) = d % (p - 1) := Int.tmod_eq_emod_of_nonneg (by omega)
  have tq : d.tmod (q - 1) = d % (q - 1) := Int.tmod_eq_emod_of_nonneg (by omega)
  have zp : ¬ p - 1 = 0 := by omega
  have zq : ¬ q - 1 = 0 := by omega
  have L1 : Hid (Lw.pairsV .i64 .i64 [(Lw.pw x (d % (p - 1) + p - 1) p, p)] = [.int .i64 (Lw.pw x (d % (p - 1) + p - 1) p), .int .i64 p]) := rfl
  have L2 : Hid (Lw.pairsV .i64 .i64 (Lw.partsL p q d x) = Lw.pairsV .i64 .i64 [(Lw.pw x (d % (p - 1) + p - 1) p, p)] ++ [.int .i64 (Lw.pw x (d % (q - 1) + q - 1) q), .int .i64 q]) := rfl
  have A1 := Lib.hid (fun w => power_Of x (d % (p - 1) + p - 1) p w (by omega) (by omega) (by omega) p2)
  have A2 := Lib.hid (fun w => power_Of x (d % (q - 1) + q - 1) q w (by omega) (by omega) (by omega) q2)
  obtain ⟨dp, hdp⟩ : ∃ z, d % (p - 1) = z := ⟨_, rfl⟩
  obtain ⟨dq, hdq⟩ : ∃ z, d % (q - 1) = z := ⟨_, rfl⟩
  rw [hdp] at rp0 rp1 tp L1 L2 A1
  rw [hdq] at rq0 rq1 tq L2 A2
  clear hdp hdq h ht
  go_enter Try.func39, Try.ntmps39
  go_wp2_with fail
  refine (T.out _).mono ?_
  rintro r w1 ⟨rfl, hb1⟩
  have C0 := (hb1.block w.heap.size (by simp)).trans B0.out
  have hz1 := hb1.size
  simp at hz1
  have HB1 : Below w.heap.size w w1 := Lw.bt (Lw.balloc (Below.refl _ _) _) hb1
  go_wp2_with fail
  all_goals
    refine (TW.out _).mono ?_
    rintro r w2 ⟨rfl, hb2⟩
    have C2 := (hb2.block w.heap.size (by omega)).trans C0
    have hz2 := hb2.size
    have HB2 : Below w.heap.size w w2 := Lw.bt HB1 hb2
    have l0 := Lw.blk_cell C2 0
    have l2 := Lw.blk_cell C2 2
    simp at l0 l2
    have hw2 : w.heap.size < w2.heap.size := by omega
    clear C0 C2 B0
    go_wp2_with fail
    all_goals (try (exfalso; omega))
    go_loopw [12, 14, 47] (fun b m i wr => ∃ k zs, ((i = .int .i64 0 ∧ 0 = k ∧ [] = zs) ∨ (i = .int .i64 1 ∧ 1 = k ∧ Lw.pairsV .i64 .i64 [(Lw.pw x (dp + p - 1) p, p)] = zs) ∨ (i = .int .i64 2 ∧ 2 = k ∧ Lw.pairsV .i64 .i64 (Lw.partsL p q d x) = zs)) ∧ wr.ownsRow w2.heap.size 47 2 b k zs ∧ Below w2.heap.size w2 wr) (fun _ _ i _ => 2 - (intOf i).toNat)
    case atStart => exact ⟨0, [], .inl ⟨rfl, rfl, rfl⟩, World.ownsRow_nil _ _ _ _, Below.refl _ _⟩
    case round =>
      obtain ⟨k, zs, h, own, hB⟩ := hrel
      have hszr := hB.size
      have OWN := Lib.hid own
      have l2' := (hB.cell hw2).trans l2
      clear own
      rcases h with ⟨rfl, rfl, rfl⟩ | ⟨rfl, rfl, rfl⟩ | ⟨rfl, rfl, rfl⟩
      · go_wp2_with (first | (go_at_call 65; refine (A1.out _).mono ?_; rintro e w1 ⟨rfl, rfl⟩) | (at_builtin; refine Lw.wpList_app elRest rfl _ _ rfl rfl (OWN.out.alloc _) rfl (by first | exact Lw.Rd.nil _ _ _ | exact Lw.Rd.lit (Lw.blk_new' (by simp) _ _) rfl rfl | exact Lw.Rd.lit (Lw.blk_alloc (Lw.blk_new' (by simp) _ _) _) rfl rfl) (Lw.one2 _ _ _ _) (by omega) (Lw.balloc hB _) (Nat.le_refl _) (by simp; omega) ?_; intro v2 w2 own2 hb2 _ _))
        have O2 := Lib.hid own2
        clear own2
        go_wp2
        go_roundw
        case rel => exact ⟨1, _, .inr (.inl ⟨rfl, rfl, rfl⟩), O2.out, hb2⟩
        case measure => simp [intOf]
      · go_wp2_with (first | (go_at_call 65; refine (A2.out _).mono ?_; rintro e w1 ⟨rfl, rfl⟩) | (at_builtin; refine Lw.wpList_app elRest rfl _ _ rfl rfl (OWN.out.alloc _) rfl (by first | exact Lw.Rd.nil _ _ _ | exact Lw.Rd.lit (Lw.blk_new' (by simp) _ _) rfl rfl | exact Lw.Rd.lit (Lw.blk_alloc (Lw.blk_new' (by simp) _ _) _) rfl rfl) (Lw.one2 _ _ _ _) (by omega) (Lw.balloc hB _) (Nat.le_refl _) (by simp; omega) ?_; intro v2 w2 own2 hb2 _ _))
        have O2 := Lib.hid own2
        clear own2
        go_wp2
        go_roundw
        case rel => exact ⟨2, _, .inr (.inr ⟨rfl, rfl, rfl⟩), by rw [L2.out]; exact O2.out, hb2⟩
        case measure => simp [intOf]
      · obtain ⟨U, c, rfl, _⟩ := Lw.ownsForm OWN.out
        have R := Lw.Rd.of_own OWN.out
        have SV := Lib.hid (crt_Solve_ok U 2 c (Lw.partsL p q d x) wr R PE.out)
        clear R
        go_wp2_with fail
        refine SV.out.mono ?_
        rintro r w4 ⟨h4, hb4⟩
        rcases h4 with ⟨_, A, a0, a1, FT, rfl⟩ | ⟨ff, _⟩
        · rw [PL.out] at a1
          have hA := PA.out A a0 a1 FT
          subst hA
          go_wp2_with fail
          go_ret2
          exact ⟨rfl, by (repeat (first | exact Below.refl _ _ | refine Lw.bt ?_ (by assumption) | refine Lw.balloc ?_ _ | refine Lw.bdrewN ?_ _ | refine Below.drew ?_ | refine Lw.bset ?_ (by first | (simp; done) | (simp; omega) | omega) _))⟩
        · exact absurd ff (by rw [PF.out]; simp)
end Go.Proofs.Ytoignifimgioaaa
