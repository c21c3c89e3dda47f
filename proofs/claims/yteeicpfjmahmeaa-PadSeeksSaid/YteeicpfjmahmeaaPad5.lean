/- slices.Index and pad.Find. -/
import Derived.Test.YteeicpfjmahmeaaPad4
namespace Lw
open Go Go.RowKit
/-- the first place of c, if there is one -/
def FirstAt (zs : List Int) (c : Int) (k : Nat) : Prop := (∃ h : k < zs.length, zs[k] = c) ∧ ∀ j (h : j < zs.length), j < k → zs[j] ≠ c
theorem first_at (zs : List Int) (c : Int) : (∃ k, FirstAt zs c k) ∨ ∀ j (h : j < zs.length), zs[j] ≠ c := by
  by_cases h : ∃ k, ∃ h : k < zs.length, zs[k] = c
  · obtain ⟨k, hk⟩ := h
    left
    induction k using Nat.strongRecOn with
    | ind k ih =>
      by_cases hj : ∃ j, j < k ∧ ∃ h : j < zs.length, zs[j] = c
      · obtain ⟨j, j1, j2⟩ := hj
        exact ih j j1 j2
      · exact ⟨k, hk, fun j h j1 e => hj ⟨j, j1, h, e⟩⟩
  · exact .inr fun j hj e => h ⟨j, hj, e⟩
theorem head_row {T : List TRow} (h : cipE T = 0) : T.length ≤ 16 ∧ (∀ r ∈ T, r.n = firstN T) ∧ firstN T ≤ 16 ∧ 0 < T.length ∧ 0 < firstN T := by
  unfold cipE at h
  split at h
  · simp at h
  split at h
  · simp at h
  split at h
  · simp at h
  split at h
  · simp at h
  rename_i h1 h2 h3 h4
  have h2 : T.any (fun r => decide (Big 16 r.n)) = false := by simpa using h2
  have h4 : T.any (fun r => decide (Odd (firstN T) r.n)) = false := by simpa using h4
  have hl : 0 < T.length := by
    cases T with
    | nil => exact absurd rfl h3
    | cons a T => simp
  refine ⟨by omega, odd_no h4, ?_, hl, by omega⟩
  rw [firstN_get hl]
  exact big_no h2 _ (List.getElem_mem hl)
end Lw
set_option linter.unusedVariables false
set_option linter.unusedSimpArgs false
namespace Go.Proofs.Yteeicpfjmahmeaa
open Go.RowKit
set_option maxHeartbeats 1000000 in
theorem slices_Index_yes (A : Option Addr) (n cp : Nat) (zs : List Int) (c : Int) (w : World) (R : Lw.Rd w 1 A n (Lw.intsV .i64 zs)) (hn : n ≤ 1048576) (m : Nat) (hm : Lw.FirstAt zs c m) :
    Calls Try.prog 49 #[.slice A n cp, .int .i64 c] w fun e w' => e = .returned (.int .i64 (m : Int)) ∧ w = w' := by
  have R := Lib.hid R
  have L := Lib.hid (show zs.length = n by have := R.out.1; simpa [Lw.intsV] using this)
  obtain ⟨⟨hm1, hm2⟩, hm3⟩ := hm
  have hmn : m < n := by rw [← L.out]; exact hm1
  have M3 := Lib.hid hm3
  clear hm3
  go_enter Try.func49, Try.ntmps49
  go_wp2
  go_loop [5, 8] (fun x i => ∃ k : Nat, i = .int .i64 (k : Int) ∧ k ≤ m) (fun _ i => n - (intOf i).toNat)
  case atStart => exact ⟨0, rfl, by omega⟩
  case round =>
    obtain ⟨k, rfl, k1⟩ := hrel
    have hlt : k < n := by omega
    have hl : k < zs.length := by rw [L.out]; exact hlt
    obtain ⟨ad, rfl, had, hcell⟩ := R.out.at1 hlt (Lw.intsV_get hl)
    by_cases hk : k = m
    · subst hk
      rw [hm2] at hcell
      go_wp2
      go_ret
      exact ⟨rfl, rfl⟩
    · have ne := M3.out k hl (by omega)
      obtain ⟨x, hx⟩ : ∃ x, zs[k] = x := ⟨_, rfl⟩
      rw [hx] at hcell ne
      have h1 : (c == x) = false := by simp; omega
      clear hx ne
      go_wp2
      go_round
      case rel => exact ⟨k + 1, by go_num, by omega⟩
      case measure => simp [intOf]; omega
set_option maxHeartbeats 1000000 in
theorem slices_Index_no (A : Option Addr) (n cp : Nat) (zs : List Int) (c : Int) (w : World) (R : Lw.Rd w 1 A n (Lw.intsV .i64 zs)) (hn : n ≤ 1048576) (hm : ∀ j (h : j < zs.length), zs[j] ≠ c) :
    Calls Try.prog 49 #[.slice A n cp, .int .i64 c] w fun e w' => e = .returned (.int .i64 (-1)) ∧ w = w' := by
  have R := Lib.hid R
  have L := Lib.hid (show zs.length = n by have := R.out.1; simpa [Lw.intsV] using this)
  have M3 := Lib.hid hm
  clear hm
  go_enter Try.func49, Try.ntmps49
  go_wp2
  go_loop [5, 8] (fun x i => ∃ k : Nat, i = .int .i64 (k : Int) ∧ k ≤ n) (fun _ i => n - (intOf i).toNat)
  case atStart => exact ⟨0, rfl, by omega⟩
  case round =>
    obtain ⟨k, rfl, k1⟩ := hrel
    by_cases hlt : k < n
    · have hl : k < zs.length := by rw [L.out]; exact hlt
      obtain ⟨ad, rfl, had, hcell⟩ := R.out.at1 hlt (Lw.intsV_get hl)
      have ne := M3.out k hl
      obtain ⟨x, hx⟩ : ∃ x, zs[k] = x := ⟨_, rfl⟩
      rw [hx] at hcell ne
      have h1 : (c == x) = false := by simp; omega
      clear hx ne
      go_wp2
      go_round
      case rel => exact ⟨k + 1, by go_num, by omega⟩
      case measure => simp [intOf]; omega
    · go_wp2
      go_ret
      exact ⟨rfl, rfl⟩
theorem pad_Find_bad (A : Option Addr) (n cp : Nat) (T : List Lw.TRow) (k c : Int) (w : World) (h : Lw.Tab .i64 w A n T) (h0 : ¬ Lw.cipE T = 0) :
    Calls Try.prog 26 #[.slice A n cp, .int .i64 k, .int .i64 c] w fun e w' => e = .returned (.tuple #[.int .i64 0, .int .i64 (Lw.cipE T)]) ∧ Below w.heap.size w w' := by
  have X := Lib.hid (pad_Check A n cp T w h)
  have h1 : (Lw.cipE T == 0) = false := by simpa using h0
  clear h h0
  go_enter Try.func26, Try.ntmps26
  go_wp2_with (go_at_call 18; (with_reducible refine (X.out).mono ?_); rintro e w1 ⟨rfl, hb1⟩)
  go_ret2
  exact ⟨rfl, hb1⟩
theorem pad_Find_arg (A : Option Addr) (n cp : Nat) (T : List Lw.TRow) (k c : Int) (w : World) (h : Lw.Tab .i64 w A n T) (h0 : Lw.cipE T = 0) (hk : k < 0 ∨ (n : Int) ≤ k) :
    Calls Try.prog 26 #[.slice A n cp, .int .i64 k, .int .i64 c] w fun e w' => e = .returned (.tuple #[.int .i64 0, .int .i64 3]) ∧ Below w.heap.size w w' := by
  have X := pad_Check A n cp T w h
  rw [h0] at X
  replace X := Lib.hid X
  clear h h0
  have hk' : k < 0 ∨ (0 ≤ k ∧ (n : Int) ≤ k) := by omega
  clear hk
  rcases hk' with h1 | ⟨h1, h2⟩
  all_goals
    go_enter Try.func26, Try.ntmps26
    go_wp2_with (go_at_call 18; (with_reducible refine (X.out).mono ?_); rintro e w1 ⟨rfl, hb1⟩)
    go_ret2
    exact ⟨rfl, hb1⟩
theorem pad_Find_ok (A : Option Addr) (n cp : Nat) (T : List Lw.TRow) (k : Nat) (c : Int) (w : World) (h : Lw.Tab .i64 w A n T) (h0 : Lw.cipE T = 0) (hk : k < n) (r : Lw.TRow) (hr : T[k]? = some r) (m : Nat) (hm : Lw.FirstAt r.zs c m) :
    Calls Try.prog 26 #[.slice A n cp, .int .i64 (k : Int), .int .i64 c] w fun e w' => e = .returned (.tuple #[.int .i64 (m : Int), .int .i64 0]) ∧ Below w.heap.size w w' := by
  have X := pad_Check A n cp T w h
  rw [h0] at X
  replace X := Lib.hid X
  have H := Lib.hid h
  obtain ⟨hl, ad, rfl, had, hcell, ok⟩ := h.at_ hk
  have e : T[k] = r := by rw [List.getElem?_eq_getElem hl] at hr; injection hr
  have hh := (Lw.head_row h0).2.1 _ (List.getElem_mem hl)
  have hh2 := (Lw.head_row h0).2.2.1
  rw [e] at hcell ok hh
  obtain ⟨rA, rn, rc, rzs⟩ := r
  simp only at hcell hh hm
  have IX := Lib.hid (fun w' (hb : Below w.heap.size w w') => slices_Index_yes rA rn rc rzs c w' ((ok.below (Nat.le_refl _) hb).1) (by omega) m hm)
  have hadk : (ad.add k).block < w.heap.size := by rw [Lw.add_block]; exact had
  clear h h0 ok e hr hm H hh hh2
  go_enter Try.func26, Try.ntmps26
  go_wp2_with (first | (go_at_call 18; (with_reducible refine (X.out).mono ?_); rintro e w1 ⟨rfl, hb1⟩; have hc1 := (hb1.cell (p := ad.add k) hadk).trans hcell) | (go_at_call 49; (with_reducible refine (IX.out _ hb1).mono ?_); rintro e w2 ⟨rfl, rfl⟩))
  go_ret2
  exact ⟨rfl, hb1⟩
theorem pad_Find_none (A : Option Addr) (n cp : Nat) (T : List Lw.TRow) (k : Nat) (c : Int) (w : World) (h : Lw.Tab .i64 w A n T) (h0 : Lw.cipE T = 0) (hk : k < n) (r : Lw.TRow) (hr : T[k]? = some r) (hm : ∀ j (h : j < r.zs.length), r.zs[j] ≠ c) :
    Calls Try.prog 26 #[.slice A n cp, .int .i64 (k : Int), .int .i64 c] w fun e w' => e = .returned (.tuple #[.int .i64 0, .int .i64 5]) ∧ Below w.heap.size w w' := by
  have X := pad_Check A n cp T w h
  rw [h0] at X
  replace X := Lib.hid X
  obtain ⟨hl, ad, rfl, had, hcell, ok⟩ := h.at_ hk
  have e : T[k] = r := by rw [List.getElem?_eq_getElem hl] at hr; injection hr
  have hh := (Lw.head_row h0).2.1 _ (List.getElem_mem hl)
  have hh2 := (Lw.head_row h0).2.2.1
  rw [e] at hcell ok hh
  obtain ⟨rA, rn, rc, rzs⟩ := r
  simp only at hcell hh hm
  have IX := Lib.hid (fun w' (hb : Below w.heap.size w w') => slices_Index_no rA rn rc rzs c w' ((ok.below (Nat.le_refl _) hb).1) (by omega) hm)
  have hadk : (ad.add k).block < w.heap.size := by rw [Lw.add_block]; exact had
  clear h h0 ok e hr hm hh hh2
  go_enter Try.func26, Try.ntmps26
  go_wp2_with (first | (go_at_call 18; (with_reducible refine (X.out).mono ?_); rintro e w1 ⟨rfl, hb1⟩; have hc1 := (hb1.cell (p := ad.add k) hadk).trans hcell) | (go_at_call 49; (with_reducible refine (IX.out _ hb1).mono ?_); rintro e w2 ⟨rfl, rfl⟩))
  go_ret2
  exact ⟨rfl, hb1⟩
end Go.Proofs.Yteeicpfjmahmeaa
