/- The law PrimesDivide: what divides a number. -/
import Derived.Test.YtlgegdmnbhoepaaDvw
import Derived.Test.YtlgegdmnbhoepaaPla
set_option linter.unusedVariables false
namespace Lw
theorem dvR_in {n k : Nat} (h : n % (k + 1) = 0) : dvR n (k + 1) = dvR n k ++ [((k + 1 : Nat) : Int)] := by show _ ++ (if _ then _ else _) = _; rw [if_pos h]
theorem dvR_out {n k : Nat} (h : ¬ n % (k + 1) = 0) : dvR n (k + 1) = dvR n k := by show _ ++ (if _ then _ else _) = _; rw [if_neg h, List.append_nil]
end Lw
namespace Go.Proofs.Ytlgegdmnbhoepaa
open Go.RowKit
set_option maxHeartbeats 1000000 in
theorem ref_Divisors (n : Nat) (w : World) (h1 : 1 ≤ n) (h2 : n ≤ 1048576) :
    Calls Try.prog 47 #[.int .i64 (n : Int)] w (Lw.OwnRes 2 1 (Lw.intsV .i64 (Lw.dvR n n)) (Lw.dvR n n).length w) := by
  go_enter Try.func47, Try.ntmps47
  go_wp2
  go_loopw [3, 4] (fun v d wr => ∃ k : Nat, d = .int .i64 ((k : Int) + 1) ∧ k ≤ n ∧ Below w.heap.size w wr ∧ wr.ownsRow w.heap.size 2 1 v (Lw.dvR n k).length (Lw.intsV .i64 (Lw.dvR n k))) (fun _ d _ => n + 1 - (intOf d).toNat)
  case atStart => exact ⟨0, rfl, by omega, Below.refl _ _, World.ownsRow_nil _ _ _ _⟩
  case round =>
    obtain ⟨k, rfl, k1, hB, own⟩ := hrel
    have OWN := Lib.hid own
    have LN := (Lw.dvR_sorted n k).2
    have hsz := hB.size
    clear own
    have hmc : (n : Int) % ((k : Int) + 1) = ((n % (k + 1) : Nat) : Int) := rfl
    by_cases hlt : k < n
    · have hlt' : (k : Int) + 1 ≤ (n : Int) := by omega
      have kz : ¬ (k : Int) + 1 = 0 := by omega
      by_cases hd : n % (k + 1) = 0
      · have hd1 : ((n : Int) % ((k : Int) + 1) == 0) = true := by rw [hmc, hd]; rfl
        have E := Lib.hid (Lw.dvR_in hd)
        generalize Lw.dvR n k = R at *
        clear hd hmc
        go_wp2_with (at_builtin; refine Lw.wpList_app elI64 rfl _ _ rfl rfl (OWN.out.alloc _) rfl (Lw.Rd.lit (Lw.blk_new' rfl _ _) rfl rfl) (by intro u hu; simp at hu; subst hu; rfl) (by omega) (Lw.balloc hB _) (Nat.le_refl _) (by simp; omega) ?_; intro v2 w2 own2 hb2 _ _)
        go_roundw
        case rel => exact ⟨k + 1, by go_num, by omega, hb2, by rw [E.out, List.length_append]; have e : Lw.intsV .i64 (R ++ [((k + 1 : Nat) : Int)]) = Lw.intsV .i64 R ++ [.int .i64 ((k : Int) + 1)] := (by simp [Lw.intsV]); rw [e]; exact own2⟩
        case measure => simp [intOf]; omega
      · have hd1 : ((n : Int) % ((k : Int) + 1) == 0) = false := by rw [hmc]; simp; omega
        have E := Lib.hid (Lw.dvR_out hd)
        generalize Lw.dvR n k = R at *
        clear hd hmc
        go_wp2
        go_roundw
        case rel => exact ⟨k + 1, by go_num, by omega, hB, by rw [E.out]; exact OWN.out⟩
        case measure => simp [intOf]; omega
    · have hlt' : ¬ (k : Int) + 1 ≤ (n : Int) := by omega
      obtain rfl : k = n := by omega
      obtain ⟨A, c, rfl, _⟩ := Lw.ownsForm OWN.out
      go_wp2
      go_ret
      exact ⟨A, c, rfl, OWN.out, hB⟩
theorem divisors_bad (n : Int) (w : World) (h : n < 1 ∨ 1048576 < n) :
    Calls Try.prog 45 #[.int .i64 n] w fun e w' => e = .returned (.tuple #[.slice none 0 0, .int .i64 2]) ∧ Below w.heap.size w w' := by
  have ho := Lw.outB_true h
  refine (callsIn_wide (n := 4)).1 ?_
  refine callsIn_of_wp_marks Try.func45 rfl trivial ?_ rfl
  simp only [Try.ntmps45, List.size_toArray, List.length_cons, List.length_nil, Nat.reduceAdd, Nat.reduceSub, Array.replicate_succ, Array.replicate_zero, List.push_toArray, List.append_toArray, List.nil_append, List.cons_append]
  gi_wp2_with (refine ⟨trivial, ?_⟩; gi_at_call 95; refine (callsIn_wide.2 (primes_out _ _)).mono ?_; rintro e w' ⟨rfl, rfl⟩)
  exact ⟨_, results_tmp2 (fn := Try.f45) rfl _ _ _, rfl, by go_grown⟩
end Go.Proofs.Ytlgegdmnbhoepaa
namespace Go.Proofs.Ytlgegdmnbhoepaa.LW
open Go.RowKit
set_option maxHeartbeats 1000000 in
theorem PrimesDivide (n : Int) (w : World) (wn : (Lit.int .i64 n).wf = true) :
    Calls Try.prog 13 #[.int .i64 n] w fun e w' => e = .returned (.bool true) ∧ Below w.heap.size w w' := by
  by_cases h : n < 1 ∨ 1048576 < n
  · have E : Lw.modI n = 2 := if_pos h
    have PB := Lib.hid (divisors_bad n w h)
    clear h
    go_enter Try.func13, Try.ntmps13
    go_wp2_with (first | (go_at_call 26; refine (law_modulus _ _).mono ?_; rintro e w' ⟨rfl, rfl⟩) | (go_at_call 45; (with_reducible refine (PB.out).mono ?_); rintro e w1 ⟨rfl, hb1⟩))
    go_ret
    exact ⟨by simp, hb1⟩
  · obtain ⟨m, rfl⟩ := Int.eq_ofNat_of_zero_le (by omega : 0 ≤ n)
    have E : Lw.modI (m : Int) = 0 := if_neg h
    have PG := Lib.hid (primes_Divisors m w (by omega) (by omega))
    have RG := Lib.hid (fun w => ref_Divisors m w (by omega) (by omega))
    have hl := (Lw.dvR_sorted m m).2
    generalize Lw.dvR m m = R at *
    go_enter Try.func13, Try.ntmps13
    go_wp2_with fail
    refine PG.out.mono ?_
    rintro e w1 ⟨⟨A1, c1, rfl, R1⟩, hb1⟩
    have R1 := Lib.hid R1
    go_wp2_with (first | (go_at_call 26; refine (law_modulus _ _).mono ?_; rintro e w' ⟨rfl, rfl⟩) | (go_at_call 47; (with_reducible refine (RG.out _).mono ?_); rintro e w3 ⟨A3, c3, rfl, own3, hb3⟩; have R3 := Lib.hid (Lw.Rd.of_own own3); clear own3) | (go_at_call 46; (with_reducible refine (ref_Longs R.length c1 c3 A1 A3 R _ (R1.out.below (Nat.le_refl _) hb3) R3.out (by omega)).mono ?_); rintro e w4 ⟨rfl, d4, rfl⟩))
    go_ret
    exact ⟨by simp, Lw.bdrewN (Lw.bt hb1 hb3) _⟩
end Go.Proofs.Ytlgegdmnbhoepaa.LW
