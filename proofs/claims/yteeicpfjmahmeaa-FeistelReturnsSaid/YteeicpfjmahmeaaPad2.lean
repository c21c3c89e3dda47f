/- slices.ContainsFunc, slices.Min, slices.Max: of tables and rows. -/
import Derived.Test.YteeicpfjmahmeaaPad
set_option linter.unusedVariables false
set_option linter.unusedSimpArgs false
namespace Go.Proofs.Yteeicpfjmahmeaa
open Go.RowKit
theorem con_pad1 (A : Option Addr) (n c : Nat) (T : List Lw.TRow) (w : World) (h : Lw.Tab .i64 w A n T) (hn : n ≤ 1048576) :
    Calls Try.prog 39 #[.slice A n c, .func (.func 40) #[] #[]] w fun e w' => e = .returned (.bool (T.any (fun r => decide (Lw.Big 16 r.n)))) ∧ w = w' := by
  have X := Lib.hid (idx_pad1 A n c T w h hn)
  clear h
  go_enter Try.func39, Try.ntmps39
  go_wp2_with (go_at_call 57; (with_reducible refine (X.out).mono ?_); rintro e w1 ⟨r, rfl, rfl, hr⟩)
  go_ret
  exact ⟨Lw.ret_bool (Lw.IdxT.ge hr), rfl⟩
theorem con_pad2 (n c : Nat) (T : List Lw.TRow) (w : World) (b m : Nat) (A0 : Option Addr) (c0 : Nat) (ad : Addr) (h : Lw.Tab .i64 w (some ad) n T) (hn : n ≤ 1048576) (hb : w.cell? ⟨b, 0, none⟩ = some (.slice (some ad) n c)) (hc0 : w.cell? ad = some (.slice A0 m c0)) (hn0 : 0 < n) :
    Calls Try.prog 39 #[.slice (some ad) n c, .func (.func 41) #[] #[.pointer (some ⟨b, 0, none⟩)]] w fun e w' => e = .returned (.bool (T.any (fun r => decide (Lw.Odd m r.n)))) ∧ w = w' := by
  have X := Lib.hid (idx_pad2 (some ad) n c T w h hn b m A0 c0 ad rfl hb hc0 hn0)
  clear h hb hc0
  go_enter Try.func39, Try.ntmps39
  go_wp2_with (go_at_call 57; (with_reducible refine (X.out).mono ?_); rintro e w1 ⟨r, rfl, rfl, hr⟩)
  go_ret
  exact ⟨Lw.ret_bool (Lw.IdxT.ge hr), rfl⟩
theorem con_fei (A : Option Addr) (n c : Nat) (T : List Lw.TRow) (w : World) (h : Lw.Tab .i64 w A n T) (hn : n ≤ 1048576) :
    Calls Try.prog 39 #[.slice A n c, .func (.func 58) #[] #[]] w fun e w' => e = .returned (.bool (T.any (fun r => decide (Lw.Odd 16 r.n)))) ∧ w = w' := by
  have X := Lib.hid (idx_fei A n c T w h hn)
  clear h
  go_enter Try.func39, Try.ntmps39
  go_wp2_with (go_at_call 57; (with_reducible refine (X.out).mono ?_); rintro e w1 ⟨r, rfl, rfl, hr⟩)
  go_ret
  exact ⟨Lw.ret_bool (Lw.IdxT.ge hr), rfl⟩
set_option maxHeartbeats 1000000 in
theorem slices_Min (A : Option Addr) (n c : Nat) (zs : List Int) (w : World) (h : Lw.RowOk .i64 w ⟨A, n, c, zs⟩) (h0 : 0 < n) (hn : n ≤ 1048576) :
    Calls Try.prog 42 #[.slice A n c] w (Lw.MinP zs w) := by
  have H := Lib.hid h.1
  have L := Lib.hid h.len
  have WF := Lib.hid h.2.2
  clear h
  simp only at H L WF
  have l0 : 0 < zs.length := by rw [L.out]; exact h0
  obtain ⟨ad, rfl, had, hc0⟩ := H.out.at1 h0 (Lw.intsV_get l0)
  rw [Lw.add_zero'] at hc0
  go_enter Try.func42, Try.ntmps42
  go_wp2
  go_loop [3, 4] (fun m i => ∃ (k : Nat) (a : Int), i = .int .i64 (k : Int) ∧ m = .int .i64 a ∧ 1 ≤ k ∧ k ≤ n ∧ Hid (a ∈ zs) ∧ Hid (∀ z ∈ zs.take k, a ≤ z)) (fun _ i => n - (intOf i).toNat)
  case atStart => exact ⟨1, zs[0], rfl, rfl, Nat.le_refl _, h0, List.getElem_mem l0, by intro z hz; rw [Lw.mem_take_succ l0] at hz; simp at hz; omega⟩
  case round =>
    obtain ⟨k, a, rfl, rfl, k1, k2, M1, M2⟩ := hrel
    by_cases hlt : k < n
    · have hl : k < zs.length := by rw [L.out]; exact hlt
      obtain ⟨ad', e, _, hcell⟩ := H.out.at1 hlt (Lw.intsV_get hl)
      injection e with e
      subst e
      have MM := Lib.hid (List.getElem_mem hl)
      have NX := Lib.hid (fun z => (Lw.mem_take_succ hl (z := z)).1)
      obtain ⟨x, hx⟩ : ∃ x, zs[k] = x := ⟨_, rfl⟩
      rw [hx] at hcell MM NX
      clear hx
      by_cases hax : a ≤ x
      · have N1 : Hid (∀ z ∈ zs.take (k + 1), a ≤ z) := by
          intro z hz
          rcases NX.out z hz with h | h
          · exact M2.out z h
          · subst h; exact (by omega)
        clear MM NX M2 H WF L hc0
        go_wp2
        all_goals (try (exfalso; omega))
        all_goals
          go_round
          case rel => exact ⟨k + 1, a, by go_num, by first | rfl | go_num, by omega, by omega, M1, N1⟩
          case measure => simp [intOf]; omega
      · have N1 : Hid (∀ z ∈ zs.take (k + 1), x ≤ z) := by
          intro z hz
          rcases NX.out z hz with h | h
          · have := M2.out z h; omega
          · subst h; exact (by omega)
        clear M1 NX M2 H WF L hc0
        go_wp2
        all_goals (try (exfalso; omega))
        all_goals
          go_round
          case rel => exact ⟨k + 1, x, by go_num, by first | rfl | go_num, by omega, by omega, MM, N1⟩
          case measure => simp [intOf]; omega
    · have hk : zs.take k = zs := List.take_of_length_le (by rw [L.out]; omega)
      have M3 := M2.out
      rw [hk] at M3
      have M3 := Lib.hid M3
      clear hk M2
      go_wp2
      go_ret
      exact ⟨_, rfl, rfl, M1.out, M3.out⟩

set_option maxHeartbeats 1000000 in
theorem slices_Max (A : Option Addr) (n c : Nat) (zs : List Int) (w : World) (h : Lw.RowOk .i64 w ⟨A, n, c, zs⟩) (h0 : 0 < n) (hn : n ≤ 1048576) :
    Calls Try.prog 43 #[.slice A n c] w (Lw.MaxP zs w) := by
  have H := Lib.hid h.1
  have L := Lib.hid h.len
  have WF := Lib.hid h.2.2
  clear h
  simp only at H L WF
  have l0 : 0 < zs.length := by rw [L.out]; exact h0
  obtain ⟨ad, rfl, had, hc0⟩ := H.out.at1 h0 (Lw.intsV_get l0)
  rw [Lw.add_zero'] at hc0
  go_enter Try.func43, Try.ntmps43
  go_wp2
  go_loop [3, 4] (fun m i => ∃ (k : Nat) (a : Int), i = .int .i64 (k : Int) ∧ m = .int .i64 a ∧ 1 ≤ k ∧ k ≤ n ∧ Hid (a ∈ zs) ∧ Hid (∀ z ∈ zs.take k, z ≤ a)) (fun _ i => n - (intOf i).toNat)
  case atStart => exact ⟨1, zs[0], rfl, rfl, Nat.le_refl _, h0, List.getElem_mem l0, by intro z hz; rw [Lw.mem_take_succ l0] at hz; simp at hz; omega⟩
  case round =>
    obtain ⟨k, a, rfl, rfl, k1, k2, M1, M2⟩ := hrel
    by_cases hlt : k < n
    · have hl : k < zs.length := by rw [L.out]; exact hlt
      obtain ⟨ad', e, _, hcell⟩ := H.out.at1 hlt (Lw.intsV_get hl)
      injection e with e
      subst e
      have MM := Lib.hid (List.getElem_mem hl)
      have NX := Lib.hid (fun z => (Lw.mem_take_succ hl (z := z)).1)
      obtain ⟨x, hx⟩ : ∃ x, zs[k] = x := ⟨_, rfl⟩
      rw [hx] at hcell MM NX
      clear hx
      by_cases hax : x ≤ a
      · have N1 : Hid (∀ z ∈ zs.take (k + 1), z ≤ a) := by
          intro z hz
          rcases NX.out z hz with h | h
          · exact M2.out z h
          · subst h; exact (by omega)
        clear MM NX M2 H WF L hc0
        go_wp2
        all_goals (try (exfalso; omega))
        all_goals
          go_round
          case rel => exact ⟨k + 1, a, by go_num, by first | rfl | go_num, by omega, by omega, M1, N1⟩
          case measure => simp [intOf]; omega
      · have N1 : Hid (∀ z ∈ zs.take (k + 1), z ≤ x) := by
          intro z hz
          rcases NX.out z hz with h | h
          · have := M2.out z h; omega
          · subst h; exact (by omega)
        clear M1 NX M2 H WF L hc0
        go_wp2
        all_goals (try (exfalso; omega))
        all_goals
          go_round
          case rel => exact ⟨k + 1, x, by go_num, by first | rfl | go_num, by omega, by omega, MM, N1⟩
          case measure => simp [intOf]; omega
    · have hk : zs.take k = zs := List.take_of_length_le (by rw [L.out]; omega)
      have M3 := M2.out
      rw [hk] at M3
      have M3 := Lib.hid M3
      clear hk M2
      go_wp2
      go_ret
      exact ⟨_, rfl, rfl, M1.out, M3.out⟩

end Go.Proofs.Yteeicpfjmahmeaa
