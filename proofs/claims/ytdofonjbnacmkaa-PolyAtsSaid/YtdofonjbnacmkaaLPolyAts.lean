/- The law PolyAts: what a polynomial is at a place is what the reference says, or the code. -/
import Derived.Test.YtdofonjbnacmkaaPlv
import Derived.Test.YtdofonjbnacmkaaRow
set_option linter.unusedVariables false
namespace Go.Proofs.Ytdofonjbnacmkaa.LW
open Go.RowKit
set_option maxHeartbeats 1000000 in
theorem PolyAts (p : Int) (A : Option Addr) (n c : Nat) (xs : List Int) (x : Int) (w : World) (wp : (Lit.int .i64 p).wf = true) (h : Lw.IsRow .i64 w A n c xs) (wx : (Lit.int .i64 x).wf = true) :
    Calls Try.prog 4 #[.int .i64 p, .slice A n c, .int .i64 x] w fun e w' => e = .returned (.bool true) ∧ Below w.heap.size w w' := by
  obtain ⟨R, _, _, _, _⟩ := h.rd
  generalize xs.take n = zs at R
  clear h wp wx
  have PC := fun W (h : Below w.heap.size w W) => ref_PolyCheck p A n c zs W (R.below (Nat.le_refl w.heap.size) h)
  by_cases h0 : Lw.polyE p zs = 0
  · by_cases hx : x < -2147483648 ∨ 2147483648 < x
    · have X := Lib.hid (poly_At_out p A n c zs x w R h0 hx)
      have E : Hid (Lw.bothI x 0 = 2) := by unfold Hid Lw.bothI; rw [Lw.farB_true hx]; rfl
      have F2 : Hid (Lw.firstI 0 2 = 2) := rfl
      have BO := fun w => law_both x 0 w
      rw [E.out] at BO
      have FI := fun w => law_first 0 2 w
      rw [F2.out] at FI
      rw [h0] at PC
      replace PC := Lib.hid PC
      replace BO := Lib.hid BO
      replace FI := Lib.hid FI
      clear R h0 hx E F2
      go_enter Try.func4, Try.ntmps4
      go_wp2_with (first | (go_at_call 17; (with_reducible refine (X.out).mono ?_); rintro e w1 ⟨rfl, hb1⟩) | (go_at_call 16; (with_reducible refine (PC.out _ hb1).mono ?_); rintro e w' ⟨rfl, rfl⟩) | (go_at_call 19; (with_reducible refine (BO.out _).mono ?_); rintro e w' ⟨rfl, rfl⟩) | (go_at_call 18; (with_reducible refine (FI.out _).mono ?_); rintro e w' ⟨rfl, rfl⟩))
      go_ret
      exact ⟨by simp, hb1⟩
    · have X := poly_At p A n c zs x w R h0 (by omega) (by omega)
      obtain ⟨p1, p2, _, l1, b1, _⟩ := Lw.poly_facts h0
      have la : zs.length = n := by have := R.1; simpa [Lw.intsV] using this
      have V := fun W (h : Below w.heap.size w W) => ref_Value p A n c zs x W (R.below (Nat.le_refl w.heap.size) h) b1 p1 p2 (by omega)
      obtain ⟨v, hv⟩ : ∃ v, Lw.hornV p zs (x % p) = v := ⟨_, rfl⟩
      rw [hv] at X V
      replace X := Lib.hid X
      replace V := Lib.hid V
      have E : Hid (Lw.bothI x 0 = 0) := by unfold Hid Lw.bothI; rw [Lw.farB_false hx]; rfl
      have F2 : Hid (Lw.firstI 0 0 = 0) := rfl
      have BO := fun w => law_both x 0 w
      rw [E.out] at BO
      have FI := fun w => law_first 0 0 w
      rw [F2.out] at FI
      rw [h0] at PC
      replace PC := Lib.hid PC
      replace BO := Lib.hid BO
      replace FI := Lib.hid FI
      clear R h0 hx E F2 hv b1 la
      go_enter Try.func4, Try.ntmps4
      go_wp2_with (first | (go_at_call 17; (with_reducible refine (X.out).mono ?_); rintro e w1 ⟨rfl, hb1⟩) | (go_at_call 16; (with_reducible refine (PC.out _ hb1).mono ?_); rintro e w' ⟨rfl, rfl⟩) | (go_at_call 19; (with_reducible refine (BO.out _).mono ?_); rintro e w' ⟨rfl, rfl⟩) | (go_at_call 18; (with_reducible refine (FI.out _).mono ?_); rintro e w' ⟨rfl, rfl⟩) | (go_at_call 20; (with_reducible refine (V.out _ hb1).mono ?_); rintro e w2 ⟨rfl, hb2⟩))
      go_ret
      exact ⟨by simp, Lw.bt hb1 hb2⟩
  · have X := poly_At_bad p A n c zs x w R h0
    have h1 : (Lw.polyE p zs == 0) = false := by simpa using h0
    have F2 : Hid (∀ b, Lw.firstI (Lw.polyE p zs) b = Lw.polyE p zs) := fun b => Lw.firstI_ne _ _ h0
    have FI := fun w => law_first (Lw.polyE p zs) (Lw.bothI x 0) w
    rw [F2.out] at FI
    obtain ⟨f, hf⟩ : ∃ f, Lw.polyE p zs = f := ⟨_, rfl⟩
    rw [hf] at X PC FI h1
    replace PC := Lib.hid PC
    replace X := Lib.hid X
    replace FI := Lib.hid FI
    have BO := Lib.hid (fun w => law_both x 0 w)
    clear R h0 F2 hf
    go_enter Try.func4, Try.ntmps4
    go_wp2_with (first | (go_at_call 17; (with_reducible refine (X.out).mono ?_); rintro e w1 ⟨rfl, hb1⟩) | (go_at_call 16; (with_reducible refine (PC.out _ hb1).mono ?_); rintro e w' ⟨rfl, rfl⟩) | (go_at_call 19; (with_reducible refine (BO.out _).mono ?_); rintro e w' ⟨rfl, rfl⟩) | (go_at_call 18; (with_reducible refine (FI.out _).mono ?_); rintro e w' ⟨rfl, rfl⟩))
    go_ret
    exact ⟨by simp, hb1⟩
end Go.Proofs.Ytdofonjbnacmkaa.LW
