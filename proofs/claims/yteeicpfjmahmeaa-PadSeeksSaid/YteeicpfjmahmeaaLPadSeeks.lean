/- The law PadSeeks: the message is the first that becomes the number, or the code. -/
import Derived.Test.YteeicpfjmahmeaaPad5
set_option linter.unusedVariables false
namespace Go.Proofs.Yteeicpfjmahmeaa.LW
open Go.RowKit
theorem PadSeeks_bad (A : Option Addr) (n cp : Nat) (T : List Lw.TRow) (k c : Int) (w : World) (h : Lw.Tab .i64 w A n T) (h0 : ¬ Lw.cipE T = 0) :
    Calls Try.prog 9 #[.slice A n cp, .int .i64 k, .int .i64 c] w fun e w' => e = .returned (.bool true) ∧ Below w.heap.size w w' := by
  have X := Lib.hid (pad_Find_bad A n cp T k c w h h0)
  have Y := Lib.hid (fun w h => ref_CipherCheck A n cp T w h)
  have H := Lib.hid h
  have h1 : (Lw.cipE T == 0) = false := by simpa using h0
  clear h h0
  go_enter Try.func9, Try.ntmps9
  go_wp2_with (first | (go_at_call 26; (with_reducible refine (X.out).mono ?_); rintro e w1 ⟨rfl, hb1⟩) | (go_at_call 19; (with_reducible refine (Y.out _ (H.out.below (Nat.le_refl _) hb1)).mono ?_); rintro e w2 ⟨rfl, rfl⟩))
  go_ret
  exact ⟨by simp, hb1⟩
theorem PadSeeks_arg (A : Option Addr) (n cp : Nat) (T : List Lw.TRow) (k c : Int) (w : World) (h : Lw.Tab .i64 w A n T) (h0 : Lw.cipE T = 0) (hk : k < 0 ∨ (n : Int) ≤ k) :
    Calls Try.prog 9 #[.slice A n cp, .int .i64 k, .int .i64 c] w fun e w' => e = .returned (.bool true) ∧ Below w.heap.size w w' := by
  have X := Lib.hid (pad_Find_arg A n cp T k c w h h0 hk)
  have Y := fun w h => ref_CipherCheck A n cp T w h
  rw [h0] at Y
  replace Y := Lib.hid Y
  have H := Lib.hid h
  clear h h0
  have hk' : k < 0 ∨ (0 ≤ k ∧ (n : Int) ≤ k) := by omega
  clear hk
  rcases hk' with h1 | ⟨h1, h2⟩
  all_goals
    go_enter Try.func9, Try.ntmps9
    go_wp2_with (first | (go_at_call 26; (with_reducible refine (X.out).mono ?_); rintro e w1 ⟨rfl, hb1⟩) | (go_at_call 19; (with_reducible refine (Y.out _ (H.out.below (Nat.le_refl _) hb1)).mono ?_); rintro e w2 ⟨rfl, rfl⟩))
    go_ret
    exact ⟨by simp, hb1⟩
set_option maxHeartbeats 1000000 in
theorem PadSeeks_yes (A : Option Addr) (n cp : Nat) (T : List Lw.TRow) (k : Nat) (c : Int) (w : World) (h : Lw.Tab .i64 w A n T) (h0 : Lw.cipE T = 0) (hk : k < n) (r : Lw.TRow) (hr : T[k]? = some r) (m : Nat) (hm : Lw.FirstAt r.zs c m) :
    Calls Try.prog 9 #[.slice A n cp, .int .i64 (k : Int), .int .i64 c] w fun e w' => e = .returned (.bool true) ∧ Below w.heap.size w w' := by
  have X := Lib.hid (pad_Find_ok A n cp T k c w h h0 hk r hr m hm)
  have Y := fun w h => ref_CipherCheck A n cp T w h
  rw [h0] at Y
  replace Y := Lib.hid Y
  have H := Lib.hid h
  obtain ⟨hl, ad, rfl, had, hcell, ok⟩ := h.at_ hk
  have e : T[k] = r := by rw [List.getElem?_eq_getElem hl] at hr; injection hr
  have hh := (Lw.head_row h0).2.1 _ (List.getElem_mem hl)
  have hh2 := (Lw.head_row h0).2.2.1
  rw [e] at hcell ok hh
  obtain ⟨rA, rn, rc, rzs⟩ := r
  simp only at hcell hh hm
  have hadk : (ad.add k).block < w.heap.size := by rw [Lw.add_block]; exact had
  have R := Lib.hid ok.1
  have L := Lib.hid ok.len
  simp only at R L
  have hrn : rn ≤ 16 := by omega
  obtain ⟨⟨hm1, hm2⟩, hm3⟩ := hm
  have hmn : m < rn := by rw [← L.out]; exact hm1
  have M3 := Lib.hid hm3
  clear h h0 ok e hr hm3 hh hh2
  go_enter Try.func9, Try.ntmps9
  go_wp2_with (first | (go_at_call 26; (with_reducible refine (X.out).mono ?_); rintro e w1 ⟨rfl, hb1⟩; have hc1 := (hb1.cell (p := ad.add k) hadk).trans hcell) | (go_at_call 19; (with_reducible refine (Y.out _ (H.out.below (Nat.le_refl _) hb1)).mono ?_); rintro e w2 ⟨rfl, rfl⟩))
  have R1 := Lib.hid (R.out.below (Nat.le_refl _) hb1)
  clear X Y H R
  go_loop [10] (fun i => ∃ j : Nat, i = .int .i64 (j : Int) ∧ j ≤ m) (fun i => rn - (intOf i).toNat)
  case atStart => exact ⟨0, rfl, by omega⟩
  case round =>
    obtain ⟨j, rfl, j1⟩ := hrel
    have hlt : j < rn := by omega
    have hl : j < rzs.length := by rw [L.out]; exact hlt
    obtain ⟨ae, rfl, hae, hcj⟩ := R1.out.at1 hlt (Lw.intsV_get hl)
    by_cases hj : j = m
    · subst hj
      rw [hm2] at hcj
      go_wp2
      go_ret
      exact ⟨by simp, hb1⟩
    · have ne := M3.out j hl (by omega)
      obtain ⟨x, hx⟩ : ∃ x, rzs[j] = x := ⟨_, rfl⟩
      rw [hx] at hcj ne
      have h1 : (x == c) = false := by simp; omega
      clear hx ne
      go_wp2
      go_round
      case rel => exact ⟨j + 1, by go_num, by omega⟩
      case measure => simp [intOf]; omega
set_option maxHeartbeats 1000000 in
theorem PadSeeks_no (A : Option Addr) (n cp : Nat) (T : List Lw.TRow) (k : Nat) (c : Int) (w : World) (h : Lw.Tab .i64 w A n T) (h0 : Lw.cipE T = 0) (hk : k < n) (r : Lw.TRow) (hr : T[k]? = some r) (hm : ∀ j (h : j < r.zs.length), r.zs[j] ≠ c) :
    Calls Try.prog 9 #[.slice A n cp, .int .i64 (k : Int), .int .i64 c] w fun e w' => e = .returned (.bool true) ∧ Below w.heap.size w w' := by
  have X := Lib.hid (pad_Find_none A n cp T k c w h h0 hk r hr hm)
  have Y := fun w h => ref_CipherCheck A n cp T w h
  rw [h0] at Y
  replace Y := Lib.hid Y
  have H := Lib.hid h
  obtain ⟨hl, ad, rfl, had, hcell, ok⟩ := h.at_ hk
  have e : T[k] = r := by rw [List.getElem?_eq_getElem hl] at hr; injection hr
  have hh := (Lw.head_row h0).2.1 _ (List.getElem_mem hl)
  have hh2 := (Lw.head_row h0).2.2.1
  rw [e] at hcell ok hh
  obtain ⟨rA, rn, rc, rzs⟩ := r
  simp only at hcell hh hm
  have hadk : (ad.add k).block < w.heap.size := by rw [Lw.add_block]; exact had
  have hrn : rn ≤ 16 := by omega
  have R := Lib.hid ok.1
  have L := Lib.hid ok.len
  simp only at R L
  have M3 := Lib.hid hm
  clear h h0 ok e hr hm hh hh2
  go_enter Try.func9, Try.ntmps9
  go_wp2_with (first | (go_at_call 26; (with_reducible refine (X.out).mono ?_); rintro e w1 ⟨rfl, hb1⟩; have hc1 := (hb1.cell (p := ad.add k) hadk).trans hcell) | (go_at_call 19; (with_reducible refine (Y.out _ (H.out.below (Nat.le_refl _) hb1)).mono ?_); rintro e w2 ⟨rfl, rfl⟩))
  have R1 := Lib.hid (R.out.below (Nat.le_refl _) hb1)
  clear X Y H R
  go_loop [10] (fun i => ∃ j : Nat, i = .int .i64 (j : Int) ∧ j ≤ rn) (fun i => rn - (intOf i).toNat)
  case atStart => exact ⟨0, rfl, by omega⟩
  case round =>
    obtain ⟨j, rfl, j1⟩ := hrel
    by_cases hlt : j < rn
    · have hl : j < rzs.length := by rw [L.out]; exact hlt
      obtain ⟨ae, rfl, hae, hcj⟩ := R1.out.at1 hlt (Lw.intsV_get hl)
      have ne := M3.out j hl
      obtain ⟨x, hx⟩ : ∃ x, rzs[j] = x := ⟨_, rfl⟩
      rw [hx] at hcj ne
      have h1 : (x == c) = false := by simp; omega
      clear hx ne
      go_wp2
      go_round
      case rel => exact ⟨j + 1, by go_num, by omega⟩
      case measure => simp [intOf]; omega
    · go_wp2
      go_ret
      exact ⟨by simp, hb1⟩
theorem PadSeeks (A : Option Addr) (n cp : Nat) (k c : Int) (w : World) (h : Lw.IsSl w [Lw.IsS w [Lw.IsI .i64]] A n cp) (wk : (Lit.int .i64 k).wf = true) (wc : (Lit.int .i64 c).wf = true) :
    Calls Try.prog 9 #[.slice A n cp, .int .i64 k, .int .i64 c] w fun e w' => e = .returned (.bool true) ∧ Below w.heap.size w w' := by
  obtain ⟨T, hT⟩ := Lw.tab_of h
  by_cases h0 : Lw.cipE T = 0
  · by_cases hk : k < 0 ∨ (n : Int) ≤ k
    · exact PadSeeks_arg A n cp T k c w hT h0 hk
    · obtain ⟨j, rfl⟩ := Int.eq_ofNat_of_zero_le (by omega : 0 ≤ k)
      have hj : j < n := by omega
      have hjl : j < T.length := by rw [hT.len]; exact hj
      rcases Lw.first_at T[j].zs c with ⟨m, hm⟩ | hm
      · exact PadSeeks_yes A n cp T j c w hT h0 hj T[j] (List.getElem?_eq_getElem hjl) m hm
      · exact PadSeeks_no A n cp T j c w hT h0 hj T[j] (List.getElem?_eq_getElem hjl) hm
  · exact PadSeeks_bad A n cp T k c w hT h0
end Go.Proofs.Yteeicpfjmahmeaa.LW
