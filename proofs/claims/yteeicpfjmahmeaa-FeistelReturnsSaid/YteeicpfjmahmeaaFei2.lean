/- What is wrong with rounds: feistel.wrong and the reference's RoundsCheck. -/
import Derived.Test.YteeicpfjmahmeaaFei
import Derived.Test.YteeicpfjmahmeaaPad2
namespace Lw
open Go Go.RowKit
def feiE (T : List TRow) (x : Int) : Int := if 64 < T.length then 1 else if T.any (fun r => decide (Odd 16 r.n)) then 4 else if T.any (fun r => outR 16 r.zs) then 2 else if x < 0 ∨ 255 < x then 2 else 0
theorem fei_len {T : List TRow} {x : Int} (h : 64 < T.length) : feiE T x = 1 := if_pos h
theorem fei_odd {T : List TRow} {x : Int} (h : ¬ 64 < T.length) (h1 : T.any (fun r => decide (Odd 16 r.n)) = true) : feiE T x = 4 := by unfold feiE; rw [if_neg h, if_pos h1]
theorem fei_out {T : List TRow} {x : Int} (h : ¬ 64 < T.length) (h1 : T.any (fun r => decide (Odd 16 r.n)) = false) (h2 : T.any (fun r => outR 16 r.zs) = true) : feiE T x = 2 := by unfold feiE; rw [if_neg h, if_neg (by simp [h1]), if_pos h2]
theorem fei_x {T : List TRow} {x : Int} (h : ¬ 64 < T.length) (h1 : T.any (fun r => decide (Odd 16 r.n)) = false) (h2 : T.any (fun r => outR 16 r.zs) = false) : feiE T x = if x < 0 ∨ 255 < x then 2 else 0 := by unfold feiE; rw [if_neg h, if_neg (by simp [h1]), if_neg (by simp [h2])]
theorem outR_all {zs : List Int} {m : Int} (h : outR m zs = false) : ∀ z ∈ zs, 0 ≤ z ∧ z < m := by
  intro z hz
  have := List.any_eq_false.1 h z hz
  simp at this; omega
theorem fei_ok {k : IntKind} {w : World} {A : Option Addr} {n : Nat} {T : List TRow} {x : Int} (hT : Tab k w A n T) (h : feiE T x = 0) : Rounds T ∧ n ≤ 64 ∧ 0 ≤ x ∧ x ≤ 255 := by
  have hl := hT.len
  unfold feiE at h
  split at h
  · simp at h
  split at h
  · simp at h
  split at h
  · simp at h
  split at h
  · simp at h
  rename_i h1 h2 h3 h4
  have h2 : T.any (fun r => decide (Odd 16 r.n)) = false := by simpa using h2
  have h3 : T.any (fun r => outR 16 r.zs) = false := by simpa using h3
  refine ⟨fun r hr => ⟨?_, ?_⟩, by omega, by omega, by omega⟩
  · rw [(hT.2 r hr).len]; exact odd_no h2 r hr
  · have := List.any_eq_false.1 h3 r hr
    exact outR_all (by simpa using this)
end Lw
set_option linter.unusedVariables false
set_option linter.unusedSimpArgs false
namespace Go.Proofs.Yteeicpfjmahmeaa
open Go.RowKit
set_option maxHeartbeats 2000000 in
theorem feistel_wrong (A : Option Addr) (n c : Nat) (T : List Lw.TRow) (y : Int) (w : World) (h : Lw.Tab .i64 w A n T) :
    Calls Try.prog 44 #[.slice A n c, .int .i64 y] w fun e w' => e = .returned (.int .i64 (Lw.feiE T y)) ∧ w = w' := by
  have hl := h.len
  by_cases h1 : 64 < n
  · have E := Lib.hid (Lw.fei_len (T := T) (x := y) (by omega))
    have i1 : (64 : Int) < (n : Int) := by omega
    clear h hl
    go_enter Try.func44, Try.ntmps44
    go_wp2
    go_ret
    exact ⟨Lw.ret_int E.out.symm, rfl⟩
  have i1 : ¬ (64 : Int) < (n : Int) := by omega
  have X1 := Lib.hid (con_fei A n c T w h (by omega))
  by_cases h2 : T.any (fun r => decide (Lw.Odd 16 r.n)) = true
  · have E := Lib.hid (Lw.fei_odd (T := T) (x := y) (by omega) h2)
    rw [h2] at X1
    clear h hl h2
    go_enter Try.func44, Try.ntmps44
    go_wp2_with (go_at_call 39; (with_reducible refine (X1.out).mono ?_); rintro e w1 ⟨rfl, rfl⟩)
    go_ret
    exact ⟨Lw.ret_int E.out.symm, rfl⟩
  have h2 : T.any (fun r => decide (Lw.Odd 16 r.n)) = false := by simpa using h2
  rw [h2] at X1
  have ON := Lib.hid (Lw.odd_no h2)
  have E := Lib.hid (fun h => Lw.fei_out (T := T) (x := y) (by omega) h2 h)
  have EX := Lib.hid (fun h => Lw.fei_x (T := T) (x := y) (by omega) h2 h)
  have H := Lib.hid h
  clear h hl h2
  go_enter Try.func44, Try.ntmps44
  go_wp2_with (go_at_call 39; (with_reducible refine (X1.out).mono ?_); rintro e w1 ⟨rfl, rfl⟩)
  clear X1
  go_loop [6, 14] (fun r i => ∃ k : Nat, i = .int .i64 (k : Int) ∧ k ≤ n ∧ Hid ((T.take k).any (fun r => Lw.outR 16 r.zs) = false)) (fun _ i => n - (intOf i).toNat)
  case atStart => exact ⟨0, rfl, by omega, rfl⟩
  case round =>
    obtain ⟨k, rfl, k1, TK⟩ := hrel
    by_cases hlt : k < n
    · obtain ⟨hl, ad, rfl, _, hcell, ok⟩ := H.out.at_ hlt
      have N := Lib.hid (Lw.any_take (p := fun r : Lw.TRow => Lw.outR 16 r.zs) hl TK.out)
      have D := Lib.hid (Lw.any_at (p := fun r : Lw.TRow => Lw.outR 16 r.zs) hl)
      have n1 := ON.out _ (List.getElem_mem hl)
      obtain ⟨⟨qA, qn, qc, qzs⟩, hr⟩ : ∃ r, T[k] = r := ⟨_, rfl⟩
      rw [hr] at hcell N D n1 ok
      clear hr
      simp only at hcell n1
      subst n1
      have MI := Lib.hid (slices_Min qA 16 qc qzs w ok (by omega) (by omega))
      have MA := Lib.hid (slices_Max qA 16 qc qzs w ok (by omega) (by omega))
      clear ok
      have hout := Bool.eq_false_or_eq_true (Lw.outR 16 qzs)
      rcases hout with ho | ho
      · have E2 : Hid (Lw.feiE T y = 2) := E.out (D.out ho)
        have CN := Lib.hid (show ∀ a b : Int, (∀ z ∈ qzs, a ≤ z) → ¬ a < 0 → (∀ z ∈ qzs, z ≤ b) → ¬ 16 ≤ b → False from fun (a b : Int) h1 h2 h3 h4 => absurd ho (by rw [Lw.outR_no (m := 16) (zs := qzs) (a := a) (b := b) h1 h2 h3 h4]; simp))
        clear N D E ho
        go_wp2_with (first | (go_at_call 42; (with_reducible refine (MI.out).mono ?_); rintro e w1 ⟨a, rfl, rfl, ma, la⟩; replace ma := Lib.hid ma; replace la := Lib.hid la) | (go_at_call 43; (with_reducible refine (MA.out).mono ?_); rintro e w1 ⟨b, rfl, rfl, mb, lb⟩; replace mb := Lib.hid mb; replace lb := Lib.hid lb))
        all_goals first
          | (go_ret; exact ⟨Lw.ret_int E2.out.symm, rfl⟩)
          | (exfalso; exact CN.out _ _ la.out (by omega) lb.out (by omega))
      · have N1 := Lib.hid (N.out ho)
        have CM := Lib.hid (show ∀ a : Int, a ∈ qzs → a < 0 → False from fun (a : Int) h h0 => absurd (Lw.outR_min (m := 16) (zs := qzs) (a := a) h h0) (by rw [ho]; simp))
        have CX := Lib.hid (show ∀ a : Int, a ∈ qzs → 16 ≤ a → False from fun (a : Int) h h0 => absurd (Lw.outR_max (m := 16) (zs := qzs) (a := a) h h0) (by rw [ho]; simp))
        clear N D E ho
        go_wp2_with (first | (go_at_call 42; (with_reducible refine (MI.out).mono ?_); rintro e w1 ⟨a, rfl, rfl, ma, la⟩; replace ma := Lib.hid ma; replace la := Lib.hid la) | (go_at_call 43; (with_reducible refine (MA.out).mono ?_); rintro e w1 ⟨b, rfl, rfl, mb, lb⟩; replace mb := Lib.hid mb; replace lb := Lib.hid lb))
        all_goals first
          | (exfalso; exact CM.out _ ma.out (by omega))
          | (exfalso; exact CX.out _ mb.out (by omega))
          | skip
        go_round
        case rel => exact ⟨k + 1, by go_num, by omega, N1⟩
        case measure => simp [intOf]; omega
    · have hk : T.take k = T := List.take_of_length_le (by rw [H.out.len]; omega)
      have T0 := TK.out
      rw [hk] at T0
      have E0 := Lib.hid (EX.out T0)
      clear hk T0 TK E EX
      by_cases hx0 : y < 0
      · have E1 : Hid (Lw.feiE T y = 2) := by rw [E0.out, if_pos (.inl hx0)]; exact rfl
        go_wp2
        go_ret
        exact ⟨Lw.ret_int E1.out.symm, rfl⟩
      by_cases hx1 : 255 < y
      · have E1 : Hid (Lw.feiE T y = 2) := by rw [E0.out, if_pos (.inr hx1)]; exact rfl
        have hx2 : 256 ≤ y := by omega
        go_wp2
        go_ret
        exact ⟨Lw.ret_int E1.out.symm, rfl⟩
      · have E1 : Hid (Lw.feiE T y = 0) := by rw [E0.out, if_neg (by omega)]; exact rfl
        go_wp2
        go_ret
        exact ⟨Lw.ret_int E1.out.symm, rfl⟩
set_option maxHeartbeats 4000000 in
theorem ref_RoundsCheck (A : Option Addr) (n c : Nat) (T : List Lw.TRow) (y : Int) (w : World) (h : Lw.Tab .i64 w A n T) :
    Calls Try.prog 21 #[.slice A n c, .int .i64 y] w fun e w' => e = .returned (.int .i64 (Lw.feiE T y)) ∧ w = w' := by
  have hl := h.len
  by_cases h1 : 64 < n
  · have E := Lib.hid (Lw.fei_len (T := T) (x := y) (by omega))
    have i1 : (64 : Int) < (n : Int) := by omega
    clear h hl
    go_enter Try.func21, Try.ntmps21
    go_wp2
    go_ret
    exact ⟨Lw.ret_int E.out.symm, rfl⟩
  have i1 : ¬ (64 : Int) < (n : Int) := by omega
  have L := Lib.hid hl
  have H := Lib.hid h
  clear hl h
  go_enter Try.func21, Try.ntmps21
  go_wp2
  go_loop [6, 16] (fun r i => ∃ k : Nat, i = .int .i64 (k : Int) ∧ k ≤ n ∧ Hid ((T.take k).any (fun r => decide (Lw.Odd 16 r.n)) = false)) (fun _ i => n - (intOf i).toNat)
  case atStart => exact ⟨0, rfl, by omega, rfl⟩
  case round =>
    obtain ⟨k, rfl, k1, TK⟩ := hrel
    by_cases hlt : k < n
    · obtain ⟨hl, ad, rfl, _, hcell, okx⟩ := H.out.at_ hlt
      clear okx
      have N := Lib.hid (Lw.any_take (p := fun r : Lw.TRow => decide (Lw.Odd 16 r.n)) hl TK.out)
      have D := Lib.hid (Lw.any_at (p := fun r : Lw.TRow => decide (Lw.Odd 16 r.n)) hl)
      obtain ⟨⟨qA, qn, qc, qzs⟩, hr⟩ : ∃ r, T[k] = r := ⟨_, rfl⟩
      rw [hr] at hcell N D
      clear hr
      simp only at hcell
      by_cases ho : Lw.Odd 16 qn
      · have E2 := Lib.hid (Lw.fei_odd (T := T) (x := y) (by have := L.out; omega) (D.out (decide_eq_true ho)))
        have f0 := Lw.odd16t ho
        clear N D ho
        go_wp2
        go_ret
        exact ⟨Lw.ret_int E2.out.symm, rfl⟩
      · have N1 := Lib.hid (N.out (decide_eq_false ho))
        have f0 := Lw.odd16f ho
        clear N D ho
        go_wp2
        go_round
        case rel => exact ⟨k + 1, by go_num, by omega, N1⟩
        case measure => simp [intOf]; omega
    obtain rfl : k = n := by omega
    have hk : T.take k = T := List.take_of_length_le (by rw [L.out]; omega)
    have O := TK.out
    rw [hk] at O
    have ON := Lib.hid (Lw.odd_no O)
    have E := Lib.hid (fun h => Lw.fei_out (T := T) (x := y) (by have := L.out; omega) O h)
    have EX := Lib.hid (fun h => Lw.fei_x (T := T) (x := y) (by have := L.out; omega) O h)
    clear hk TK O hlt k1
    go_wp2
    go_loop [8, 10, 26] (fun r x i => ∃ j : Nat, i = .int .i64 (j : Int) ∧ j ≤ k ∧ Hid ((T.take j).any (fun r => Lw.outR 16 r.zs) = false)) (fun _ _ i => k - (intOf i).toNat)
    case atStart => exact ⟨0, rfl, by omega, rfl⟩
    case round =>
      obtain ⟨j, rfl, j1, TK⟩ := hrel
      by_cases hlt : j < k
      · obtain ⟨hl, ad, rfl, _, hcell, ok⟩ := H.out.at_ hlt
        have N := Lib.hid (Lw.any_take (p := fun r : Lw.TRow => Lw.outR 16 r.zs) hl TK.out)
        have D := Lib.hid (Lw.any_at (p := fun r : Lw.TRow => Lw.outR 16 r.zs) hl)
        have n1 := ON.out _ (List.getElem_mem hl)
        obtain ⟨⟨qA, qn, qc, qzs⟩, hr⟩ : ∃ r, T[j] = r := ⟨_, rfl⟩
        rw [hr] at hcell N D n1 ok
        clear hr
        simp only at hcell n1 N D
        subst n1
        have RQ := Lib.hid ok.1
        have LQ := Lib.hid ok.len
        simp only at RQ LQ
        have E2 : Hid (Lw.outR 16 qzs = true → Lw.feiE T y = 2) := fun ho => E.out (D.out ho)
        clear ok D
        go_wp2
        go_loop [10, 32] (fun x i => ∃ u : Nat, i = .int .i64 (u : Int) ∧ u ≤ 16 ∧ Hid (Lw.outR 16 (qzs.take u) = false)) (fun _ i => 16 - (intOf i).toNat)
        case atStart => exact ⟨0, rfl, by omega, rfl⟩
        case round =>
          obtain ⟨u, rfl, u1, TU⟩ := hrel
          by_cases hlu : u < 16
          · have hlz : u < qzs.length := by rw [LQ.out]; exact hlu
            obtain ⟨ad', rfl, _, hcell⟩ := RQ.out.at1 hlu (Lw.intsV_get hlz)
            have NU := Lib.hid (Lw.any_take (p := fun x : Int => decide (x < 0) || decide (16 ≤ x)) hlz TU.out)
            have MM := Lib.hid (List.getElem_mem hlz)
            obtain ⟨x, hx⟩ : ∃ x, qzs[u] = x := ⟨_, rfl⟩
            rw [hx] at hcell MM NU
            clear hx
            by_cases hx0 : x < 0
            · have E3 := Lib.hid (E2.out (Lw.outR_min MM.out hx0))
              clear NU MM
              go_wp2
              go_ret
              exact ⟨Lw.ret_int E3.out.symm, rfl⟩
            by_cases hx1 : 15 < x
            · have E3 := Lib.hid (E2.out (Lw.outR_max MM.out (by omega)))
              clear NU MM
              go_wp2
              go_ret
              exact ⟨Lw.ret_int E3.out.symm, rfl⟩
            · have N1 := Lib.hid (NU.out (by simp; omega))
              clear NU MM
              go_wp2
              go_round
              case rel => exact ⟨u + 1, by go_num, by omega, N1⟩
              case measure => simp [intOf]; omega
          · have hk : qzs.take u = qzs := List.take_of_length_le (by rw [LQ.out]; omega)
            have N1 := TU.out
            rw [hk] at N1
            replace N1 := Lib.hid (N.out N1)
            clear hk
            go_wp2
            go_round
            case rel => exact ⟨j + 1, by go_num, by omega, N1⟩
            case measure => simp [intOf]; omega
      · have hk : T.take j = T := List.take_of_length_le (by rw [L.out]; omega)
        have T0 := TK.out
        rw [hk] at T0
        have E0 := Lib.hid (EX.out T0)
        clear hk T0 TK E EX
        by_cases hx0 : y < 0
        · have E1 : Hid (Lw.feiE T y = 2) := by rw [E0.out, if_pos (.inl hx0)]; exact rfl
          go_wp2
          go_ret
          exact ⟨Lw.ret_int E1.out.symm, rfl⟩
        by_cases hx1 : 255 < y
        · have E1 : Hid (Lw.feiE T y = 2) := by rw [E0.out, if_pos (.inr hx1)]; exact rfl
          go_wp2
          go_ret
          exact ⟨Lw.ret_int E1.out.symm, rfl⟩
        · have E1 : Hid (Lw.feiE T y = 0) := by rw [E0.out, if_neg (by omega)]; exact rfl
          go_wp2
          go_ret
          exact ⟨Lw.ret_int E1.out.symm, rfl⟩
end Go.Proofs.Yteeicpfjmahmeaa
