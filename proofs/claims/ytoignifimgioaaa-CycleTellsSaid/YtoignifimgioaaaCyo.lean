/- cycle.open, maker.after, the reference's Walk. -/
import Derived.Test.YtoignifimgioaaaCyn
import Derived.Test.YtoignifimgioaaaApp
import Derived.Test.YtoignifimgioaaaPow
import Derived.Test.YtoignifimgioaaaHelp
namespace Lw
theorem quietD {P : Go.Program} {f : Go.FuncId} {args : Array Go.Value} {w : Go.World} {d n : Nat} {v : Go.Value} (h : Go.Calls P f args (w.drewN (d + n)) fun e w' => e = .returned v ∧ w.drewN (d + n) = w') : Go.Calls P f args (w.drewN (d + n)) fun e w'' => e = .returned v ∧ ∃ m, w'' = w.drewN (d + m) :=
  h.mono fun _ _ ⟨he, hm⟩ => ⟨he, n, hm.symm⟩
theorem far_dec {x : Int} (h : farB x = false) : decide (x < -2147483648) = false ∧ decide (2147483648 < x) = false := by unfold farB at h; simpa using h
theorem far_bad {x : Int} (h : farB x = true) : x < -2147483648 ∨ (-2147483648 ≤ x ∧ 2147483648 < x) := by unfold farB at h; simp at h; omega
end Lw
set_option linter.unusedVariables false
set_option linter.unusedSimpArgs false
namespace Go.Proofs.Ytoignifimgioaaa
open Go.RowKit
theorem cycle_open_ok (c n x : Int) (w : World) (hc : Lw.farB c = false) (hx : Lw.farB x = false) (h1 : 1 ≤ n) (h2 : n ≤ 1048576) :
    Calls Try.prog 43 #[.int .i64 c, .int .i64 n, .int .i64 x] w fun e w' => e = .returned (.tuple #[.agg #[.int .i64 (c % n), .int .i64 n], .int .i64 (x % n), .int .i64 0]) ∧ Below w.heap.size w w' := by
  obtain ⟨c1, c2⟩ := Lw.of_farB_false hc
  obtain ⟨x1, x2⟩ := Lw.of_farB_false hx
  clear hc hx
  have I0 := fun W => Lw.run_index_arr (P := Try.prog) (k := .i64) (cs := #[.int .i64 c, .int .i64 x]) Try.underlying91 Try.underlying2 (by kernel_rfl) 0 (by decide) rfl W
  have I1 := fun W => Lw.run_index_arr (P := Try.prog) (k := .i64) (cs := #[.int .i64 c, .int .i64 x]) Try.underlying91 Try.underlying2 (by kernel_rfl) 1 (by decide) rfl W
  simp only [Int.natCast_zero, Int.natCast_one] at I0 I1
  go_enter Try.func43, Try.ntmps43
  go_wp2
  (refine wp_loop_rounds 3 ?_; repeat any_goals (rw [rounds_succ]; go_wp2_with (go_at_call 57; refine (euclid_Mod _ _ _ (by omega) (by omega)).mono ?_; rintro e w' ⟨rfl, rfl⟩)))
  all_goals
    refine bodyPost_ret (v := .tuple #[.agg #[.int .i64 (c % n), .int .i64 n], .int .i64 (x % n), .int .i64 0]) (by simp [results, Try.results43, go_sem]) rfl ⟨rfl, by (repeat (first | exact Below.refl _ _ | refine Lw.bt ?_ (by assumption) | refine Lw.balloc ?_ _ | refine Lw.bdrewN ?_ _ | refine Below.drew ?_ | refine Lw.bset ?_ (by first | (simp; done) | (simp; omega) | omega) _))⟩
theorem cycle_open_bad (c n x : Int) (w : World) (h : Lw.firstI (Lw.bothI c x) (Lw.modI n) ≠ 0) :
    Calls Try.prog 43 #[.int .i64 c, .int .i64 n, .int .i64 x] w fun e w' => e = .returned (.tuple #[.agg #[.int .i64 0, .int .i64 0], .int .i64 0, .int .i64 2]) ∧ Below w.heap.size w w' := by
  have hcs : (c < -2147483648) ∨ (-2147483648 ≤ c ∧ 2147483648 < c) ∨ (-2147483648 ≤ c ∧ c ≤ 2147483648 ∧ x < -2147483648) ∨ (-2147483648 ≤ c ∧ c ≤ 2147483648 ∧ -2147483648 ≤ x ∧ 2147483648 < x) ∨ (-2147483648 ≤ c ∧ c ≤ 2147483648 ∧ -2147483648 ≤ x ∧ x ≤ 2147483648 ∧ n < 1) ∨ (-2147483648 ≤ c ∧ c ≤ 2147483648 ∧ -2147483648 ≤ x ∧ x ≤ 2147483648 ∧ 1 ≤ n ∧ 1048576 < n) := by
    by_cases hc : Lw.farB c = true
    · have := Lw.far_bad hc; omega
    · have hc := Lw.of_farB_false (by simpa using hc)
      by_cases hx : Lw.farB x = true
      · have := Lw.far_bad hx; omega
      · have hx := Lw.of_farB_false (by simpa using hx)
        have e : Lw.bothI c x = 0 := by unfold Lw.bothI; rw [Lw.farB_false (by omega), Lw.farB_false (by omega)]; rfl
        rw [e, Lw.firstI_zero] at h
        unfold Lw.modI at h
        split at h
        · omega
        · exact absurd rfl h
  clear h
  have I0 := fun W => Lw.run_index_arr (P := Try.prog) (k := .i64) (cs := #[.int .i64 c, .int .i64 x]) Try.underlying91 Try.underlying2 (by kernel_rfl) 0 (by decide) rfl W
  have I1 := fun W => Lw.run_index_arr (P := Try.prog) (k := .i64) (cs := #[.int .i64 c, .int .i64 x]) Try.underlying91 Try.underlying2 (by kernel_rfl) 1 (by decide) rfl W
  simp only [Int.natCast_zero, Int.natCast_one] at I0 I1
  rcases hcs with h1 | ⟨h1, h2⟩ | ⟨h1, h2, h3⟩ | ⟨h1, h2, h3, h4⟩ | ⟨h1, h2, h3, h4, h5⟩ | ⟨h1, h2, h3, h4, h5, h6⟩
  all_goals
    go_enter Try.func43, Try.ntmps43
    go_wp2
    refine wp_loop_rounds 3 ?_
    repeat any_goals (rw [rounds_succ]; go_wp2)
    all_goals
      refine bodyPost_ret (v := .tuple #[.agg #[.int .i64 0, .int .i64 0], .int .i64 0, .int .i64 2]) (by simp [results, Try.results43, go_sem]) rfl ⟨rfl, by (repeat (first | exact Below.refl _ _ | refine Lw.bt ?_ (by assumption) | refine Lw.balloc ?_ _ | refine Lw.bdrewN ?_ _ | refine Below.drew ?_ | refine Lw.bset ?_ (by first | (simp; done) | (simp; omega) | omega) _))⟩
set_option maxHeartbeats 1000000 in
theorem ref_Walk (c n x : Int) (k : Nat) (w : World) (h1 : 1 ≤ n) (h2 : n ≤ 1048576) (hk : k ≤ 4194304) :
    Calls Try.prog 47 #[.int .i64 c, .int .i64 n, .int .i64 x, .int .i64 (k : Int)] w fun e w' => e = .returned (.int .i64 (Lw.itI (c % n) n (x % n) k)) ∧ ∃ d, w' = w.drewN d := by
  have hz : ¬ n = 0 := by omega
  have c0 := Int.emod_nonneg c hz
  have c1 := Int.emod_lt_of_pos c (by omega : 0 < n)
  have HI := Lib.hid (fun j => Lw.itI_bd (c := c % n) (x := x % n) (by omega : 0 < n) (Int.emod_nonneg x hz) (Int.emod_lt_of_pos x (by omega)) j)
  go_enter Try.func47, Try.ntmps47
  go_wp2_with (go_at_call 31; refine (ref_Mod _ _ _ (by omega) (by omega)).mono ?_; rintro e w' ⟨rfl, rfl⟩)
  go_loopw [2, 9] (fun y i wr => ∃ j : Nat, j ≤ k ∧ y = .int .i64 (Lw.itI (c % n) n (x % n) j) ∧ i = .int .i64 (j : Int) ∧ ∃ d, wr = w.drewN d) (fun _ i _ => k - (intOf i).toNat)
  case atStart => exact ⟨0, by omega, rfl, rfl, 0, rfl⟩
  case round =>
    obtain ⟨j, j1, rfl, rfl, d, rfl⟩ := hrel
    by_cases hlt : j < k
    · have y0 := HI.out j
      have E : Hid (Lw.itI (c % n) n (x % n) (j + 1) = (Lw.itI (c % n) n (x % n) j * Lw.itI (c % n) n (x % n) j % n + c % n) % n) := rfl
      obtain ⟨y, hy⟩ : ∃ y, Lw.itI (c % n) n (x % n) j = y := ⟨_, rfl⟩
      rw [hy] at y0 E
      rw [hy]
      obtain ⟨y0, y1⟩ := y0
      have m0 : 0 ≤ y * y := Int.mul_nonneg y0 y0
      have m1 : y * y ≤ 1048576 * 1048576 := Int.mul_le_mul (by omega) (by omega) y0 (by omega)
      have r0 := Int.emod_nonneg (y * y) hz
      have r1 := Int.emod_lt_of_pos (y * y) (by omega : 0 < n)
      have e1 : IntKind.i64.wrap (y * y) = y * y := by rw [IntKind.wrap_i64]; omega
      have e2 : (y * y).tmod n = y * y % n := Int.tmod_eq_emod_of_nonneg m0
      have e3 : IntKind.i64.wrap (y * y % n + c % n) = y * y % n + c % n := by rw [IntKind.wrap_i64]; omega
      have e4 : (y * y % n + c % n).tmod n = (y * y % n + c % n) % n := Int.tmod_eq_emod_of_nonneg (by omega)
      have e5 : IntKind.i64.wrap (y * y % n) = y * y % n := by rw [IntKind.wrap_i64]; omega
      go_wp2
      go_quiet ((go_at_call 31; with_reducible exact Lw.quietD (ref_Mod _ _ _ (by omega) (by omega))))
      go_wp2
      go_roundw
      case rel => exact ⟨j + 1, by omega, by rw [E.out]; simp, by go_num, _, rfl⟩
      case measure => simp [intOf]; omega
    · have : j = k := by omega
      subst this
      go_wp2
      go_ret
      exact ⟨rfl, d, rfl⟩
end Go.Proofs.Ytoignifimgioaaa
