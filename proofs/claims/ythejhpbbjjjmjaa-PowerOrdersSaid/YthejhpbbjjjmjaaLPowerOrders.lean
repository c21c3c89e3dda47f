/- The law PowerOrders: power.Order is the reference's order. -/
import Derived.Test.YthejhpbbjjjmjaaOrdW
import Derived.Test.YthejhpbbjjjmjaaHelp
set_option linter.unusedVariables false
namespace Go.Proofs.Ythejhpbbjjjmjaa.LW
open Go.RowKit
set_option maxHeartbeats 1000000 in
theorem PowerOrders (a m : Int) (w : World) (wa : (Lit.int .i64 a).wf = true) (wm : (Lit.int .i64 m).wf = true) :
    Calls Try.prog 8 #[.int .i64 a, .int .i64 m] w fun e w' => e = .returned (.bool true) ∧ Below w.heap.size w w' := by
  clear wa wm
  have hc : ((a < -2147483648 ∨ 2147483648 < a ∨ m < 1 ∨ 1048576 < m) ∧ Lw.firstI (Lw.bothI a 0) (Lw.modI m) = 2) ∨ ((Lw.firstI (Lw.bothI a 0) (Lw.modI m) = 0) ∧ -2147483648 ≤ a ∧ a ≤ 2147483648 ∧ 1 ≤ m ∧ m ≤ 1048576) := by
    unfold Lw.firstI Lw.bothI Lw.farB Lw.modI; simp; omega
  rcases hc with ⟨hb, E1⟩ | ⟨E1, h1, h2, h3, h4⟩
  · have HB := Lib.hid hb
    clear hb
    go_enter Try.func8, Try.ntmps8
    go_wp2_with (first | (go_at_call 31; refine (power_Order_bad _ _ _ HB.out).mono ?_; rintro e w' ⟨rfl, rfl⟩) | (go_at_call 23; refine (law_both _ _ _).mono ?_; rintro e w' ⟨rfl, rfl⟩) | (go_at_call 16; refine (law_modulus _ _).mono ?_; rintro e w' ⟨rfl, rfl⟩) | (go_at_call 22; refine (law_first _ _ _).mono ?_; rintro e w' ⟨rfl, rfl⟩))
    go_ret
    exact ⟨by simp, by (repeat (first | exact Below.refl _ _ | refine Lw.bt ?_ (by assumption) | refine Lw.balloc ?_ _ | refine Lw.bdrewN ?_ _ | refine Below.drew ?_ | refine Lw.bset ?_ (by first | (simp; done) | (simp; omega) | omega) _))⟩
  · obtain ⟨n, rfl⟩ := Int.eq_ofNat_of_zero_le (by omega : 0 ≤ m)
    by_cases hg : Lw.gcdI a (n : Int) = 1
    · have HG := Lib.hid hg
      have ho : 1 ≤ Lw.ordI a (n : Int) := by
        by_cases hz : Lw.ordI a (n : Int) = 0
        · exfalso
          have l := Lw.lamI_bd (n := n) (by omega)
          have h := Lw.one_lam (by omega) hg
          unfold Lw.ordI at hz
          have hz2 : ((List.range ((n : Int)).toNat).find? (fun i => decide (Lw.One a (n : Int) (i + 1)))).map (· + 1) = none ∨ ∃ v, ((List.range ((n : Int)).toNat).find? (fun i => decide (Lw.One a (n : Int) (i + 1)))).map (· + 1) = some (v + 1) := by
            cases (List.range ((n : Int)).toNat).find? (fun i => decide (Lw.One a (n : Int) (i + 1))) with
            | none => exact .inl rfl
            | some v => exact .inr ⟨v, rfl⟩
          rcases hz2 with hz2 | ⟨v, hz2⟩
          · rw [Option.map_eq_none_iff, List.find?_eq_none] at hz2
            have := hz2 (Lw.lamI n - 1) (by rw [List.mem_range, Int.toNat_natCast]; omega)
            rw [Nat.sub_add_cancel l.1] at this
            simp at this
            exact this h
          · rw [hz2] at hz; simp at hz; omega
        · unfold Lw.ordI at *; omega
      have ho0 : (Lw.ordI a (n : Int) == 0) = false := by simp; omega
      clear hg
      go_enter Try.func8, Try.ntmps8
      go_wp2_with (first | (go_at_call 31; refine (power_Order_ok a n _ h1 h2 (by omega) (by omega) HG.out).mono ?_; rintro e w1 ⟨rfl, hb1⟩; obtain ⟨hc1, hf1⟩ := Lw.bcell hb1) | (go_at_call 23; refine (law_both _ _ _).mono ?_; rintro e w' ⟨rfl, rfl⟩) | (go_at_call 16; refine (law_modulus _ _).mono ?_; rintro e w' ⟨rfl, rfl⟩) | (go_at_call 22; refine (law_first _ _ _).mono ?_; rintro e w' ⟨rfl, rfl⟩) | (go_at_call 32; refine (ref_Order a n _ (by omega) (by omega)).mono ?_; rintro e w' ⟨rfl, rfl⟩))
      go_ret
      exact ⟨by simp, by (repeat (first | exact Below.refl _ _ | refine Lw.bt ?_ (by assumption) | refine Lw.balloc ?_ _ | refine Lw.bdrewN ?_ _ | refine Below.drew ?_ | refine Lw.bset ?_ (by first | (simp; done) | (simp; omega) | omega) _))⟩
    · have ho : Lw.ordI a (n : Int) = 0 := Lw.ordI_none (fun j j1 _ => Lw.no_one (by omega) hg j j1)
      have HO := Lib.hid (fun (w : World) => ho ▸ ref_Order a n w (by omega) (by omega))
      have hg1 : (Lw.gcdI a (n : Int) != 1) = true := by simpa using hg
      clear hg ho
      go_enter Try.func8, Try.ntmps8
      go_wp2_with (first | (go_at_call 31; refine (power_Order_none a n _ h1 h2 (by omega) (by omega) hg1).mono ?_; rintro e w1 ⟨rfl, hb1⟩; obtain ⟨hc1, hf1⟩ := Lw.bcell hb1) | (go_at_call 23; refine (law_both _ _ _).mono ?_; rintro e w' ⟨rfl, rfl⟩) | (go_at_call 16; refine (law_modulus _ _).mono ?_; rintro e w' ⟨rfl, rfl⟩) | (go_at_call 22; refine (law_first _ _ _).mono ?_; rintro e w' ⟨rfl, rfl⟩) | (go_at_call 32; refine (HO.out _).mono ?_; rintro e w' ⟨rfl, rfl⟩))
      go_ret
      exact ⟨by simp, by (repeat (first | exact Below.refl _ _ | refine Lw.bt ?_ (by assumption) | refine Lw.balloc ?_ _ | refine Lw.bdrewN ?_ _ | refine Below.drew ?_ | refine Lw.bset ?_ (by first | (simp; done) | (simp; omega) | omega) _))⟩
end Go.Proofs.Ythejhpbbjjjmjaa.LW
