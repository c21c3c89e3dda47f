/- The law CellLays: the program's layer is the reference's, or the code. -/
import Derived.Test.YtdibbdlpnfcmiaaLay2
import Derived.Test.YtdibbdlpnfcmiaaRow
set_option linter.unusedVariables false
namespace Go.Proofs.Ytdibbdlpnfcmiaa.LW
open Go.RowKit
theorem CellLays_range (key count : Int) (A : Option Addr) (n c : Nat) (w : World) (h : ¬ (0 ≤ key ∧ key < 65536 ∧ 0 ≤ count ∧ count ≤ 2147483648)) :
    Calls Try.prog 9 #[.int .i64 key, .int .i64 count, .slice A n c] w fun e w' => e = .returned (.bool true) ∧ Below w.heap.size w w' := by
  have hc : key < 0 ∨ (0 ≤ key ∧ 65536 ≤ key) ∨ (0 ≤ key ∧ key < 65536 ∧ count < 0) ∨ (0 ≤ key ∧ key < 65536 ∧ 0 ≤ count ∧ 2147483648 < count) := by omega
  clear h
  rcases hc with h1 | ⟨h1, h2⟩ | ⟨h1, h2, h3⟩ | ⟨h1, h2, h3, h4⟩
  all_goals
    go_enter Try.func9, Try.ntmps9
    go_wp2
    go_ret
    exact ⟨by simp, Below.refl _ _⟩
set_option maxHeartbeats 1000000 in
theorem CellLays_long (key count : Int) (A : Option Addr) (n c : Nat) (w : World) (h : 0 ≤ key ∧ key < 65536 ∧ 0 ≤ count ∧ count ≤ 2147483648) (hn : ¬ n = 17) :
    Calls Try.prog 9 #[.int .i64 key, .int .i64 count, .slice A n c] w fun e w' => e = .returned (.bool true) ∧ Below w.heap.size w w' := by
  obtain ⟨h1, h2, h3, h4⟩ := h
  have hn1 : ((n : Int) != 17) = true := by simp; omega
  go_enter Try.func9, Try.ntmps9
  go_wp2
  go_ret
  exact ⟨by simp, Below.refl _ _⟩
set_option maxHeartbeats 2000000 in
theorem CellLays_ok (key count : Int) (A : Option Addr) (c : Nat) (bs : List Int) (w : World) (R : Lw.Rd w 1 A 17 (Lw.intsV .u8 bs)) (hy : Lw.Byt bs) (h : 0 ≤ key ∧ key < 65536 ∧ 0 ≤ count ∧ count ≤ 2147483648) :
    Calls Try.prog 9 #[.int .i64 key, .int .i64 count, .slice A 17 c] w fun e w' => e = .returned (.bool true) ∧ Below w.heap.size w w' := by
  obtain ⟨h1, h2, h3, h4⟩ := h
  have R := Lib.hid R
  have X := Lib.hid (fun w R => cell_Layer_ok key count A c bs w R hy h1 h2 h3 h4)
  have Y := Lib.hid (fun w R => ref_Layer key count A c bs w R hy h1 h2 h3 h4)
  go_enter Try.func9, Try.ntmps9
  go_wp2_with (first | (go_at_call 25; (with_reducible refine (X.out _ R.out).mono ?_); rintro e w1 ⟨A1, d1, rfl, own1, hb1⟩) | (go_at_call 21; go_in) | (go_at_call 26; (with_reducible refine (Y.out _ (R.out.below (Nat.le_refl _) hb1)).mono ?_); rintro e w2 ⟨A2, d2, rfl, own2, hb2⟩) | (go_at_call 17; (with_reducible refine (ref_Bytes _ _ _ _ _ _ _ _ _ (Lw.Rd.of_own (Lw.ownsBelow own1 (Nat.le_refl _) hb2)) (Lw.Rd.of_own own2) (by omega) (by omega)).mono ?_); rintro e w3 ⟨rfl, hb3⟩))
  go_ret
  exact ⟨by simp, Lw.bt (Lw.bt hb1 hb2) hb3⟩
theorem CellLays (key count : Int) (A : Option Addr) (n c : Nat) (zs : List Int) (w : World) (wk : (Lit.int .i64 key).wf = true) (wc : (Lit.int .i64 count).wf = true) (h : Lw.IsRow .u8 w A n c zs) :
    Calls Try.prog 9 #[.int .i64 key, .int .i64 count, .slice A n c] w fun e w' => e = .returned (.bool true) ∧ Below w.heap.size w w' := by
  obtain ⟨R, _, _, _, hw⟩ := h.rd
  by_cases hr : 0 ≤ key ∧ key < 65536 ∧ 0 ≤ count ∧ count ≤ 2147483648
  · by_cases hn : n = 17
    · subst hn; exact CellLays_ok key count A c _ w R (fun z hz => by have := bounds_u8 (hw z hz); omega) hr
    · exact CellLays_long key count A n c w hr hn
  · exact CellLays_range key count A n c w hr
end Go.Proofs.Ytdibbdlpnfcmiaa.LW
