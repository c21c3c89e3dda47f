/- Polynomials: may one be? poly.prime, poly.Check, the reference's PrimeCheck and PolyCheck. -/
import Derived.Test.YtlgegdmnbhoepaaPad
import Derived.Test.YtlgegdmnbhoepaaIs
namespace Lw
open Go Go.RowKit
/-- what is wrong with a modulus -/
def pprE (p : Int) : Int := if p < 2 ∨ 251 < p then 2 else if primeB p = true then 0 else 3
/-- does a list end in 0? -/
def endZ (zs : List Int) : Bool := zs.getLast? == some 0
/-- what is wrong with a polynomial -/
def polyE (p : Int) (zs : List Int) : Int := if pprE p ≠ 0 then pprE p else if 13 < zs.length then 1 else if (outR p zs || endZ zs) = true then 4 else 0
theorem ppr_bad {p : Int} (h : p < 2 ∨ 251 < p) : pprE p = 2 := if_pos h
theorem ppr_in {p : Int} (h : 2 ≤ p) (h' : p ≤ 251) : pprE p = if primeB p = true then 0 else 3 := by unfold pprE; rw [if_neg (by omega)]
theorem ppr_ok {p : Int} (h : pprE p = 0) : 2 ≤ p ∧ p ≤ 251 ∧ primeB p = true := by
  unfold pprE at h
  by_cases h1 : p < 2 ∨ 251 < p
  · rw [if_pos h1] at h; omega
  · rw [if_neg h1] at h
    by_cases h2 : primeB p = true
    · exact ⟨by omega, by omega, h2⟩
    · rw [if_neg h2] at h; omega
theorem poly_p {p : Int} {zs : List Int} (h : ¬ pprE p = 0) : polyE p zs = pprE p := if_pos h
theorem poly_len {p : Int} {zs : List Int} (h : pprE p = 0) (h1 : 13 < zs.length) : polyE p zs = 1 := by unfold polyE; rw [if_neg (by simp [h]), if_pos h1]
theorem poly_in {p : Int} {zs : List Int} (h : pprE p = 0) (h1 : ¬ 13 < zs.length) : polyE p zs = if (outR p zs || endZ zs) = true then 4 else 0 := by unfold polyE; rw [if_neg (by simp [h]), if_neg h1]
theorem endZ_nil : endZ [] = false := rfl
theorem endZ_last {zs : List Int} {k : Nat} (h : zs.length = k + 1) : ∃ (hl : k < zs.length), endZ zs = (zs[k] == 0) := by
  refine ⟨by omega, ?_⟩
  unfold endZ
  have e : zs.length - 1 = k := by omega
  have hk : k < zs.length := by omega
  rw [List.getLast?_eq_getElem?, e, List.getElem?_eq_getElem hk]
  rfl
end Lw
set_option linter.unusedVariables false
set_option linter.unusedSimpArgs false
namespace Go.Proofs.Ytlgegdmnbhoepaa
open Go.RowKit
theorem poly_prime (p : Int) (w : World) :
    Calls Try.prog 125 #[.int .i64 p] w fun e w' => e = .returned (.int .i64 (Lw.pprE p)) ∧ Below w.heap.size w w' := by
  by_cases h : p < 2 ∨ 251 < p
  · have E := Lib.hid (Lw.ppr_bad h)
    rcases (show p < 2 ∨ (2 ≤ p ∧ 251 < p) by omega) with h | ⟨h, h2⟩
    all_goals
      go_enter Try.func125, Try.ntmps125
      go_wp2
      go_ret
      exact ⟨Lw.ret_int E.out.symm, by (repeat (first | exact Below.refl _ _ | refine Lw.bt ?_ (by assumption) | refine Lw.balloc ?_ _ | refine Lw.bdrewN ?_ _ | refine Below.drew ?_ | refine Lw.bset ?_ (by first | (simp; done) | (simp; omega) | omega) _))⟩
  · have X := fun w => primes_Is p w (by omega) (by omega)
    have E := Lw.ppr_in (p := p) (by omega) (by omega)
    rcases hp : Lw.primeB p with _ | _
    all_goals
      rw [hp] at X E
      replace E := Lib.hid E
      replace X := Lib.hid X
      clear hp
      have h1 : 2 ≤ p := by omega
      have h2 : p ≤ 251 := by omega
      clear h
      go_enter Try.func125, Try.ntmps125
      go_wp2_with (go_at_call 70; (with_reducible refine (X.out _).mono ?_); rintro e w1 ⟨rfl, hb1⟩)
      go_ret
      exact ⟨Lw.ret_int E.out.symm, by (repeat (first | exact Below.refl _ _ | refine Lw.bt ?_ (by assumption) | refine Lw.balloc ?_ _ | refine Lw.bdrewN ?_ _ | refine Below.drew ?_ | refine Lw.bset ?_ (by first | (simp; done) | (simp; omega) | omega) _))⟩
theorem ref_PrimeCheck (p : Int) (w : World) :
    Calls Try.prog 35 #[.int .i64 p] w fun e w' => e = .returned (.int .i64 (Lw.pprE p)) ∧ w = w' := by
  by_cases h : p < 2 ∨ 251 < p
  · have E := Lib.hid (Lw.ppr_bad h)
    rcases (show p < 2 ∨ (2 ≤ p ∧ 251 < p) by omega) with h | ⟨h, h2⟩
    all_goals
      go_enter Try.func35, Try.ntmps35
      go_wp2
      go_ret
      exact ⟨Lw.ret_int E.out.symm, rfl⟩
  · have X := fun w => ref_Is p w (by omega)
    have E := Lw.ppr_in (p := p) (by omega) (by omega)
    rcases hp : Lw.primeB p with _ | _
    all_goals
      rw [hp] at X E
      replace E := Lib.hid E
      replace X := Lib.hid X
      clear hp
      have h1 : 2 ≤ p := by omega
      have h2 : p ≤ 251 := by omega
      clear h
      go_enter Try.func35, Try.ntmps35
      go_wp2_with (go_at_call 29; (with_reducible refine (X.out _).mono ?_); rintro e w1 ⟨rfl, rfl⟩)
      go_ret
      exact ⟨Lw.ret_int E.out.symm, rfl⟩
set_option maxHeartbeats 1000000 in
theorem idx_ply (A : Option Addr) (n c b : Nat) (p : Int) (zs : List Int) (w : World) (R : Lw.Rd w 1 A n (Lw.intsV .i64 zs)) (hn : n ≤ 1048576) (hb : w.cell? ⟨b, 0, none⟩ = some (.int .i64 p)) :
    Calls Try.prog 107 #[.slice A n c, .func (.func 126) #[] #[.pointer (some ⟨b, 0, none⟩)]] w (Lw.IdxT (Lw.outR p zs) w) := by
  have R := Lib.hid R
  have l1 : zs.length = n := by have := R.out.1; simpa [Lw.intsV] using this
  have L := Lib.hid l1
  clear l1
  go_enter Try.func107, Try.ntmps107
  go_wp2
  go_loop [5, 8] (fun x i => ∃ k : Nat, i = .int .i64 (k : Int) ∧ k ≤ n ∧ Hid (Lw.outR p (zs.take k) = false)) (fun _ i => n - (intOf i).toNat)
  case atStart => exact ⟨0, rfl, by omega, rfl⟩
  case round =>
    obtain ⟨k, rfl, k1, T⟩ := hrel
    by_cases hlt : k < n
    · have hl : k < zs.length := by rw [L.out]; exact hlt
      obtain ⟨ad, rfl, had, hcell⟩ := R.out.at1 hlt (Lw.intsV_get hl)
      have N := Lib.hid (Lw.any_take (p := fun x => decide (x < 0) || decide (p ≤ x)) hl T.out)
      have D := Lib.hid (Lw.any_at (p := fun x : Int => decide (x < 0) || decide (p ≤ x)) hl)
      obtain ⟨x, hx⟩ : ∃ x, zs[k] = x := ⟨_, rfl⟩
      rw [hx] at hcell N D
      clear hx
      rcases (show x < 0 ∨ (0 ≤ x ∧ p ≤ x) ∨ (0 ≤ x ∧ x < p) by omega) with h0 | ⟨h0, h1⟩ | ⟨h0, h1⟩
      · have D1 : Hid (Lw.outR p zs = true) := D.out (by simp [h0])
        clear N D
        go_wp2
        go_ret
        exact ⟨_, rfl, rfl, .inr ⟨D1.out, by omega⟩⟩
      · have D1 : Hid (Lw.outR p zs = true) := D.out (by simp [h1])
        clear N D
        go_wp2
        go_ret
        exact ⟨_, rfl, rfl, .inr ⟨D1.out, by omega⟩⟩
      · have N1 : Hid (Lw.outR p (zs.take (k + 1)) = false) := N.out (by simp; omega)
        clear N D
        go_wp2
        go_round
        case rel => exact ⟨k + 1, by go_num, by omega, N1⟩
        case measure => simp [intOf]; omega
    · have hk : zs.take k = zs := List.take_of_length_le (by rw [L.out]; omega)
      have E : Hid (Lw.outR p zs = false) := by have := T.out; rwa [hk] at this
      clear hk
      go_wp2
      go_ret
      exact ⟨_, rfl, rfl, .inl ⟨E.out, rfl⟩⟩
theorem con_ply (A : Option Addr) (n c b : Nat) (p : Int) (zs : List Int) (w : World) (R : Lw.Rd w 1 A n (Lw.intsV .i64 zs)) (hn : n ≤ 1048576) (hb : w.cell? ⟨b, 0, none⟩ = some (.int .i64 p)) :
    Calls Try.prog 52 #[.slice A n c, .func (.func 126) #[] #[.pointer (some ⟨b, 0, none⟩)]] w fun e w' => e = .returned (.bool (Lw.outR p zs)) ∧ w = w' := by
  have X := Lib.hid (idx_ply A n c b p zs w R hn hb)
  clear R hb
  go_enter Try.func52, Try.ntmps52
  go_wp2_with (go_at_call 107; (with_reducible refine (X.out).mono ?_); rintro e w1 ⟨r, rfl, rfl, hr⟩)
  go_ret
  exact ⟨Lw.ret_bool (Lw.IdxT.ge hr), rfl⟩
set_option maxHeartbeats 2000000 in
theorem poly_Check (p : Int) (A : Option Addr) (n c : Nat) (zs : List Int) (w : World) (R : Lw.Rd w 1 A n (Lw.intsV .i64 zs)) :
    Calls Try.prog 78 #[.int .i64 p, .slice A n c] w fun e w' => e = .returned (.int .i64 (Lw.polyE p zs)) ∧ Below w.heap.size w w' := by
  have P := fun w => poly_prime p w
  have l1 : zs.length = n := by have := R.1; simpa [Lw.intsV] using this
  have B0 := Lib.hid (Lw.blk_new w #[.int .i64 p] 2)
  by_cases hp : Lw.pprE p = 0
  · rw [hp] at P
    replace P := Lib.hid P
    by_cases hl : 13 < zs.length
    · have E := Lib.hid (Lw.poly_len hp hl)
      have hl1 : (13 : Int) < (n : Int) := by omega
      clear hp hl
      go_enter Try.func78, Try.ntmps78
      go_wp2_with (go_at_call 125; (with_reducible refine (P.out _).mono ?_); rintro e w1 ⟨rfl, hb1⟩)
      go_ret
      exact ⟨Lw.ret_int E.out.symm, by (repeat (first | exact Below.refl _ _ | refine Lw.bt ?_ (by assumption) | refine Lw.balloc ?_ _ | refine Lw.bdrewN ?_ _ | refine Below.drew ?_ | refine Lw.bset ?_ (by first | (simp; done) | (simp; omega) | omega) _))⟩
    · have E := Lw.poly_in hp hl
      have hl1 : ¬ (13 : Int) < (n : Int) := by omega
      have hn : n ≤ 13 := by omega
      have CF := Lib.hid (fun b W (h : Below w.heap.size w W) hb => con_ply A n c b p zs W (R.below (Nat.le_refl _) h) (by omega) hb)
      cases n with
      | zero =>
        have hz : zs = [] := List.eq_nil_of_length_eq_zero l1
        subst hz
        have CF1 : Lw.outR p [] = false := rfl
        rw [CF1] at CF E
        rw [Lw.endZ_nil] at E
        replace E := Lib.hid E
        clear hp hl R
        go_enter Try.func78, Try.ntmps78
        go_wp2_with fail
        refine (P.out _).mono ?_
        rintro e w1 ⟨rfl, hb1⟩
        have C0 := (hb1.block w.heap.size (by simp)).trans B0.out
        have hB1 : Below w.heap.size w w1 := by (repeat (first | exact Below.refl _ _ | refine Lw.bt ?_ (by assumption) | refine Lw.balloc ?_ _ | refine Lw.bdrewN ?_ _ | refine Below.drew ?_ | refine Lw.bset ?_ (by first | (simp; done) | (simp; omega) | omega) _))
        have q0 := Lw.blk_cell C0 0
        simp at q0
        go_wp2_with (go_at_call 52; (with_reducible refine (CF.out _ _ hB1 q0).mono ?_); rintro e w2 ⟨rfl, rfl⟩)
        go_ret
        exact ⟨Lw.ret_int E.out.symm, hB1⟩
      | succ k =>
        obtain ⟨hk, Z⟩ := Lw.endZ_last l1
        rw [Z] at E
        obtain ⟨ad, rfl, had, hcell⟩ := R.at1 (by omega : k < k + 1) (Lw.intsV_get hk)
        obtain ⟨x, hx⟩ : ∃ x, zs[k] = x := ⟨_, rfl⟩
        rw [hx] at E hcell
        obtain ⟨o, ho⟩ : ∃ o, Lw.outR p zs = o := ⟨_, rfl⟩
        rw [ho] at E CF
        obtain ⟨z, hz⟩ : ∃ z, (x == 0) = z := ⟨_, rfl⟩
        rw [hz] at E
        clear hp hl R Z hx ho
        cases o <;> cases z
        all_goals
          replace E := Lib.hid E
          go_enter Try.func78, Try.ntmps78
          go_wp2_with fail
          refine (P.out _).mono ?_
          rintro e w1 ⟨rfl, hb1⟩
          have C0 := (hb1.block w.heap.size (by simp)).trans B0.out
          have hB1 : Below w.heap.size w w1 := by (repeat (first | exact Below.refl _ _ | refine Lw.bt ?_ (by assumption) | refine Lw.balloc ?_ _ | refine Lw.bdrewN ?_ _ | refine Below.drew ?_ | refine Lw.bset ?_ (by first | (simp; done) | (simp; omega) | omega) _))
          have hcell1 := (hB1.cell (by rw [Lw.add_block]; exact had)).trans hcell
          have q0 := Lw.blk_cell C0 0
          simp at q0
          clear hcell C0
          go_wp2_with (go_at_call 52; (with_reducible refine (CF.out _ _ hB1 q0).mono ?_); rintro e w2 ⟨rfl, rfl⟩)
          go_ret
          exact ⟨Lw.ret_int E.out.symm, hB1⟩
  · have E := Lib.hid (Lw.poly_p (zs := zs) hp)
    have h1 : (Lw.pprE p == 0) = false := by simpa using hp
    obtain ⟨e0, he⟩ : ∃ e, Lw.pprE p = e := ⟨_, rfl⟩
    rw [he] at P h1 E
    replace P := Lib.hid P
    clear hp he
    go_enter Try.func78, Try.ntmps78
    go_wp2_with (go_at_call 125; (with_reducible refine (P.out _).mono ?_); rintro e w1 ⟨rfl, hb1⟩)
    go_ret
    exact ⟨Lw.ret_int E.out.symm, by (repeat (first | exact Below.refl _ _ | refine Lw.bt ?_ (by assumption) | refine Lw.balloc ?_ _ | refine Lw.bdrewN ?_ _ | refine Below.drew ?_ | refine Lw.bset ?_ (by first | (simp; done) | (simp; omega) | omega) _))⟩
end Go.Proofs.Ytlgegdmnbhoepaa
