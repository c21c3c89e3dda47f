/- The law CellReads: the program reads of a cell what the reference reads, or the code. -/
import Derived.Test.YtdibbdlpnfcmiaaRead3
import Derived.Test.YtdibbdlpnfcmiaaRow
set_option linter.unusedVariables false
namespace Go.Proofs.Ytdibbdlpnfcmiaa.LW
open Go.RowKit
theorem CellReads_range (key count : Int) (A : Option Addr) (n c : Nat) (w : World) (h : ¬ (0 ≤ key ∧ key < 65536 ∧ 0 ≤ count ∧ count ≤ 2147483648)) :
    Calls Try.prog 11 #[.int .i64 key, .int .i64 count, .slice A n c] w fun e w' => e = .returned (.bool true) ∧ Below w.heap.size w w' := by
  have hc : key < 0 ∨ (0 ≤ key ∧ 65536 ≤ key) ∨ (0 ≤ key ∧ key < 65536 ∧ count < 0) ∨ (0 ≤ key ∧ key < 65536 ∧ 0 ≤ count ∧ 2147483648 < count) := by omega
  clear h
  rcases hc with h1 | ⟨h1, h2⟩ | ⟨h1, h2, h3⟩ | ⟨h1, h2, h3, h4⟩
  all_goals
    go_enter Try.func11, Try.ntmps11
    go_wp2
    go_ret
    exact ⟨by simp, Below.refl _ _⟩
set_option maxHeartbeats 1000000 in
theorem CellReads_long (key count : Int) (A : Option Addr) (n c : Nat) (w : World) (h : 0 ≤ key ∧ key < 65536 ∧ 0 ≤ count ∧ count ≤ 2147483648) (hn : ¬ n = 17) :
    Calls Try.prog 11 #[.int .i64 key, .int .i64 count, .slice A n c] w fun e w' => e = .returned (.bool true) ∧ Below w.heap.size w w' := by
  obtain ⟨h1, h2, h3, h4⟩ := h
  have hn1 : ((n : Int) != 17) = true := by simp; omega
  go_enter Try.func11, Try.ntmps11
  go_wp2
  go_ret
  exact ⟨by simp, Below.refl _ _⟩
set_option maxHeartbeats 2000000 in
theorem CellReads_sum (key count : Int) (ad : Addr) (c : Nat) (bs : List Int) (w : World) (R : Lw.Rd w 1 (some ad) 17 (Lw.intsV .u8 bs)) (hy : Lw.Byt bs) (hc : 17 ≤ c) (h : 0 ≤ key ∧ key < 65536 ∧ 0 ≤ count ∧ count ≤ 2147483648) (hs : ¬ bs.drop 15 = Lw.sumL key count (bs.take 15)) :
    Calls Try.prog 11 #[.int .i64 key, .int .i64 count, .slice (some ad) 17 c] w fun e w' => e = .returned (.bool true) ∧ Below w.heap.size w w' := by
  obtain ⟨h1, h2, h3, h4⟩ := h
  have R := Lib.hid R
  have X := Lib.hid (fun w R => cell_Read_sum key count ad c bs w R hy hc h1 h2 h3 h4 hs)
  have Y := Lib.hid (fun w R => ref_ReadCell_sum key count ad c bs w R hy hc h1 h2 h3 h4 hs)
  clear hy 
  go_enter Try.func11, Try.ntmps11
  go_wp2_with (first | (go_at_call 30; (with_reducible refine (X.out _ R.out).mono ?_); rintro e w1 ⟨rfl, hb1⟩) | (go_at_call 21; go_in) | (go_at_call 31; (with_reducible refine (Y.out _ (R.out.below (Nat.le_refl _) hb1)).mono ?_); rintro e w2 ⟨rfl, hb2⟩) | (go_at_call 17; (with_reducible refine (ref_Bytes _ _ _ _ _ _ [] [] _ (Lw.Rd.nil _ _ _) (Lw.Rd.nil _ _ _) (by omega) (by omega)).mono ?_); rintro e w3 ⟨rfl, hb3⟩))
  go_ret
  exact ⟨by simp, Lw.bt (Lw.bt hb1 hb2) hb3⟩
set_option maxHeartbeats 2000000 in
theorem CellReads_big (key count : Int) (ad : Addr) (c : Nat) (bs : List Int) (w : World) (R : Lw.Rd w 1 (some ad) 17 (Lw.intsV .u8 bs)) (hy : Lw.Byt bs) (hc : 17 ≤ c) (h : 0 ≤ key ∧ key < 65536 ∧ 0 ≤ count ∧ count ≤ 2147483648) (hs : bs.drop 15 = Lw.sumL key count (bs.take 15)) (m : Nat) (hm : bs[0]? = some (m : Int)) (hm14 : 14 < m) :
    Calls Try.prog 11 #[.int .i64 key, .int .i64 count, .slice (some ad) 17 c] w fun e w' => e = .returned (.bool true) ∧ Below w.heap.size w w' := by
  obtain ⟨h1, h2, h3, h4⟩ := h
  have R := Lib.hid R
  have X := Lib.hid (fun w R => cell_Read_big key count ad c bs w R hy hc h1 h2 h3 h4 hs m hm hm14)
  have Y := Lib.hid (fun w R => ref_ReadCell_big key count ad c bs w R hy hc h1 h2 h3 h4 hs m hm hm14)
  clear hy 
  go_enter Try.func11, Try.ntmps11
  go_wp2_with (first | (go_at_call 30; (with_reducible refine (X.out _ R.out).mono ?_); rintro e w1 ⟨rfl, hb1⟩) | (go_at_call 21; go_in) | (go_at_call 31; (with_reducible refine (Y.out _ (R.out.below (Nat.le_refl _) hb1)).mono ?_); rintro e w2 ⟨rfl, hb2⟩) | (go_at_call 17; (with_reducible refine (ref_Bytes _ _ _ _ _ _ [] [] _ (Lw.Rd.nil _ _ _) (Lw.Rd.nil _ _ _) (by omega) (by omega)).mono ?_); rintro e w3 ⟨rfl, hb3⟩))
  go_ret
  exact ⟨by simp, Lw.bt (Lw.bt hb1 hb2) hb3⟩
set_option maxHeartbeats 2000000 in
theorem CellReads_zero (key count : Int) (ad : Addr) (c : Nat) (bs : List Int) (w : World) (R : Lw.Rd w 1 (some ad) 17 (Lw.intsV .u8 bs)) (hy : Lw.Byt bs) (hc : 17 ≤ c) (h : 0 ≤ key ∧ key < 65536 ∧ 0 ≤ count ∧ count ≤ 2147483648) (hs : bs.drop 15 = Lw.sumL key count (bs.take 15)) (m : Nat) (hm : bs[0]? = some (m : Int)) (hm14 : m ≤ 14) (hz : ((bs.take 15).drop (1 + m)).all (· == 0) = false) :
    Calls Try.prog 11 #[.int .i64 key, .int .i64 count, .slice (some ad) 17 c] w fun e w' => e = .returned (.bool true) ∧ Below w.heap.size w w' := by
  obtain ⟨h1, h2, h3, h4⟩ := h
  have R := Lib.hid R
  have X := Lib.hid (fun w R => cell_Read_zero key count ad c bs w R hy hc h1 h2 h3 h4 hs m hm hm14 hz)
  have Y := Lib.hid (fun w R => ref_ReadCell_zero key count ad c bs w R hy hc h1 h2 h3 h4 hs m hm hm14 hz)
  clear hy 
  go_enter Try.func11, Try.ntmps11
  go_wp2_with (first | (go_at_call 30; (with_reducible refine (X.out _ R.out).mono ?_); rintro e w1 ⟨rfl, hb1⟩) | (go_at_call 21; go_in) | (go_at_call 31; (with_reducible refine (Y.out _ (R.out.below (Nat.le_refl _) hb1)).mono ?_); rintro e w2 ⟨rfl, hb2⟩) | (go_at_call 17; (with_reducible refine (ref_Bytes _ _ _ _ _ _ [] [] _ (Lw.Rd.nil _ _ _) (Lw.Rd.nil _ _ _) (by omega) (by omega)).mono ?_); rintro e w3 ⟨rfl, hb3⟩))
  go_ret
  exact ⟨by simp, Lw.bt (Lw.bt hb1 hb2) hb3⟩
set_option maxHeartbeats 2000000 in
theorem CellReads_ok (key count : Int) (ad : Addr) (c : Nat) (bs : List Int) (w : World) (R : Lw.Rd w 1 (some ad) 17 (Lw.intsV .u8 bs)) (hy : Lw.Byt bs) (hc : 17 ≤ c) (h : 0 ≤ key ∧ key < 65536 ∧ 0 ≤ count ∧ count ≤ 2147483648) (hs : bs.drop 15 = Lw.sumL key count (bs.take 15)) (m : Nat) (hm : bs[0]? = some (m : Int)) (hm14 : m ≤ 14) (hz : ((bs.take 15).drop (1 + m)).all (· == 0) = true) :
    Calls Try.prog 11 #[.int .i64 key, .int .i64 count, .slice (some ad) 17 c] w fun e w' => e = .returned (.bool true) ∧ Below w.heap.size w w' := by
  obtain ⟨h1, h2, h3, h4⟩ := h
  have R := Lib.hid R
  have X := Lib.hid (fun w R => cell_Read_ok key count ad c bs w R hy hc h1 h2 h3 h4 hs m hm hm14 hz)
  have Y := Lib.hid (fun w R => ref_ReadCell_ok key count ad c bs w R hy hc h1 h2 h3 h4 hs m hm hm14 hz)
  clear hy 
  go_enter Try.func11, Try.ntmps11
  go_wp2_with (first | (go_at_call 30; (with_reducible refine (X.out _ R.out).mono ?_); rintro e w1 ⟨A1, d1, rfl, own1, hb1⟩) | (go_at_call 21; go_in) | (go_at_call 31; (with_reducible refine (Y.out _ (R.out.below (Nat.le_refl _) hb1)).mono ?_); rintro e w2 ⟨A2, d2, rfl, own2, hb2⟩) | (go_at_call 17; (with_reducible refine (ref_Bytes _ _ _ _ _ _ _ _ _ (Lw.Rd.of_own (Lw.ownsBelow own1 (Nat.le_refl _) hb2)) (Lw.Rd.of_own own2) (by omega) (by omega)).mono ?_); rintro e w3 ⟨rfl, hb3⟩))
  go_ret
  exact ⟨by simp, Lw.bt (Lw.bt hb1 hb2) hb3⟩
theorem CellReads (key count : Int) (A : Option Addr) (n c : Nat) (zs : List Int) (w : World) (wk : (Lit.int .i64 key).wf = true) (wc : (Lit.int .i64 count).wf = true) (h : Lw.IsRow .u8 w A n c zs) :
    Calls Try.prog 11 #[.int .i64 key, .int .i64 count, .slice A n c] w fun e w' => e = .returned (.bool true) ∧ Below w.heap.size w w' := by
  obtain ⟨R, hcap, hbl, _, hw⟩ := h.rd
  clear h
  by_cases hr : 0 ≤ key ∧ key < 65536 ∧ 0 ≤ count ∧ count ≤ 2147483648
  · by_cases hn : n = 17
    · subst hn
      have hy : Lw.Byt (zs.take 17) := fun z hz => by have := bounds_u8 (hw z hz); omega
      obtain ⟨ad, rfl, _⟩ := R.2 (by decide)
      generalize zs.take 17 = bs at *
      by_cases hs : bs.drop 15 = Lw.sumL key count (bs.take 15)
      · have h0 : 0 < bs.length := by rw [hbl]; decide
        obtain ⟨mb1, mb2⟩ := hy _ (List.getElem_mem h0)
        obtain ⟨m, hm0⟩ := Int.eq_ofNat_of_zero_le mb1
        have hm : bs[0]? = some (m : Int) := by rw [List.getElem?_eq_getElem h0, hm0]
        by_cases hm14 : m ≤ 14
        · cases hz : ((bs.take 15).drop (1 + m)).all (· == 0)
          · exact CellReads_zero key count ad c bs w R hy hcap hr hs m hm hm14 hz
          · exact CellReads_ok key count ad c bs w R hy hcap hr hs m hm hm14 hz
        · exact CellReads_big key count ad c bs w R hy hcap hr hs m hm (by omega)
      · exact CellReads_sum key count ad c bs w R hy hcap hr hs
    · exact CellReads_long key count A n c w hr hn
  · exact CellReads_range key count A n c w hr
end Go.Proofs.Ytdibbdlpnfcmiaa.LW
