/- The reference's CipherCheck. -/
import Derived.Test.YteeicpfjmahmeaaPad3
set_option linter.unusedVariables false
set_option linter.unusedSimpArgs false
namespace Go.Proofs.Yteeicpfjmahmeaa
open Go.RowKit
set_option maxHeartbeats 4000000 in
theorem ref_CipherCheck (A : Option Addr) (n c : Nat) (T : List Lw.TRow) (w : World) (h : Lw.Tab .i64 w A n T) :
    Calls Try.prog 19 #[.slice A n c] w fun e w' => e = .returned (.int .i64 (Lw.cipE T)) ∧ w = w' := by
  have hl := h.len
  by_cases h1 : 16 < n
  · have E := Lib.hid (Lw.cip_len (T := T) (by omega))
    have i1 : (16 : Int) < (n : Int) := by omega
    clear h hl
    go_enter Try.func19, Try.ntmps19
    go_wp2
    go_ret
    exact ⟨Lw.ret_int E.out.symm, rfl⟩
  have i1 : ¬ (16 : Int) < (n : Int) := by omega
  have L := Lib.hid hl
  have H := Lib.hid h
  clear hl h
  go_enter Try.func19, Try.ntmps19
  go_wp2
  go_loop [4, 16] (fun r i => ∃ k : Nat, i = .int .i64 (k : Int) ∧ k ≤ n ∧ Hid ((T.take k).any (fun r => decide (Lw.Big 16 r.n)) = false)) (fun _ i => n - (intOf i).toNat)
  case atStart => exact ⟨0, rfl, by omega, rfl⟩
  case round =>
    obtain ⟨k, rfl, k1, TK⟩ := hrel
    by_cases hlt : k < n
    · obtain ⟨hl, ad, rfl, _, hcell, okx⟩ := H.out.at_ hlt
      clear okx
      have N := Lib.hid (Lw.any_take (p := fun r : Lw.TRow => decide (Lw.Big 16 r.n)) hl TK.out)
      have D := Lib.hid (Lw.any_at (p := fun r : Lw.TRow => decide (Lw.Big 16 r.n)) hl)
      obtain ⟨⟨qA, qn, qc, qzs⟩, hr⟩ : ∃ r, T[k] = r := ⟨_, rfl⟩
      rw [hr] at hcell N D
      clear hr
      simp only at hcell
      by_cases ho : Lw.Big 16 qn
      · have E2 := Lib.hid (Lw.cip_big (T := T) (by have := L.out; omega) (D.out (decide_eq_true ho)))
        have f0 := Lw.big16t ho
        clear N D ho
        go_wp2
        go_ret
        exact ⟨Lw.ret_int E2.out.symm, rfl⟩
      · have N1 := Lib.hid (N.out (decide_eq_false ho))
        have f0 := Lw.big16f ho
        clear N D ho
        go_wp2
        go_round
        case rel => exact ⟨k + 1, by go_num, by omega, N1⟩
        case measure => simp [intOf]; omega
    obtain rfl : k = n := by omega
    have hk : T.take k = T := List.take_of_length_le (by rw [L.out]; omega)
    have B := TK.out
    rw [hk] at B
    have B := Lib.hid B
    clear hk TK
    by_cases hn0 : k = 0
    · have E := Lib.hid (Lw.cip_none (T := T) (by have := L.out; omega) B.out (by have := L.out; cases T; rfl; simp at this; omega))
      subst hn0
      go_wp2
      go_ret
      exact ⟨Lw.ret_int E.out.symm, rfl⟩
    have i2 : ((k : Int) == 0) = false := by simp; omega
    have i3 : (0 : Int) < (k : Int) := by omega
    obtain ⟨hl0, ad, rfl, had, hc0, okx⟩ := H.out.at_ (k := 0) (by omega)
    clear okx
    have hF := Lw.firstN_get hl0
    obtain ⟨⟨rA, rn, rc, rzs⟩, hr⟩ : ∃ r, T[0] = r := ⟨_, rfl⟩
    rw [hr] at hc0 hF
    simp only [Lw.add_zero'] at hc0 hF
    clear hr
    by_cases h3 : rn = 0
    · have E := Lib.hid (Lw.cip_none (T := T) (by have := L.out; omega) B.out (by rw [hF, h3]))
      subst h3
      clear hF hl0
      go_wp2
      go_ret
      exact ⟨Lw.ret_int E.out.symm, rfl⟩
    have i4 : ((rn : Int) == 0) = false := by simp; omega
    have HF := Lib.hid hF
    clear hF hl0 hlt k1
    go_wp2
    go_loop [6, 36] (fun r i => ∃ j : Nat, i = .int .i64 (j : Int) ∧ j ≤ k ∧ Hid ((T.take j).any (fun r => decide (Lw.Odd rn r.n)) = false)) (fun _ i => k - (intOf i).toNat)
    case atStart => exact ⟨0, rfl, by omega, rfl⟩
    case round =>
      obtain ⟨j, rfl, j1, TJ⟩ := hrel
      by_cases hlt : j < k
      · obtain ⟨hl, ad', hAd, _, hcell, okx⟩ := H.out.at_ hlt
        clear okx
        injection hAd with hAd
        subst hAd
        have N := Lib.hid (Lw.any_take (p := fun r : Lw.TRow => decide (Lw.Odd rn r.n)) hl TJ.out)
        have D := Lib.hid (Lw.any_at (p := fun r : Lw.TRow => decide (Lw.Odd rn r.n)) hl)
        obtain ⟨⟨qA, qn, qc, qzs⟩, hr⟩ : ∃ r, T[j] = r := ⟨_, rfl⟩
        rw [hr] at hcell N D
        clear hr
        simp only at hcell
        by_cases ho : Lw.Odd rn qn
        · have E2 := Lib.hid (Lw.cip_odd (T := T) (by have := L.out; omega) B.out (by rw [HF.out]; exact h3) (by rw [HF.out]; exact D.out (decide_eq_true ho)))
          have f0 := Lw.Odd.t ho
          clear N D ho
          go_wp2
          go_ret
          exact ⟨Lw.ret_int E2.out.symm, rfl⟩
        · have N1 := Lib.hid (N.out (decide_eq_false ho))
          have f0 := Lw.Odd.f ho
          clear N D ho
          go_wp2
          go_round
          case rel => exact ⟨j + 1, by go_num, by omega, N1⟩
          case measure => simp [intOf]; omega
      obtain rfl : j = k := by omega
      have hk : T.take j = T := List.take_of_length_le (by rw [L.out]; omega)
      have O := TJ.out
      rw [hk] at O
      have E := Lib.hid (Lw.cip_out (T := T) (by have := L.out; omega) B.out (by rw [HF.out]; exact h3) (by rw [HF.out]; exact O))
      have ON := Lib.hid (Lw.odd_no O)
      have BN := Lib.hid (Lw.big_no B.out)
      clear hk TJ O hlt j1
      go_wp2
      go_loop [8, 10, 50] (fun r x i => ∃ k : Nat, i = .int .i64 (k : Int) ∧ k ≤ j ∧ Hid ((T.take k).any (fun r => Lw.outR 4096 r.zs) = false)) (fun _ _ i => j - (intOf i).toNat)
      case atStart => exact ⟨0, rfl, by omega, rfl⟩
      case round =>
        obtain ⟨k, rfl, k1, TK⟩ := hrel
        by_cases hlt : k < j
        · obtain ⟨hl, ad', hAd, _, hcell, ok⟩ := H.out.at_ hlt
          injection hAd with hAd
          subst hAd
          have N := Lib.hid (Lw.any_take (p := fun r : Lw.TRow => Lw.outR 4096 r.zs) hl TK.out)
          have D := Lib.hid (Lw.any_at (p := fun r : Lw.TRow => Lw.outR 4096 r.zs) hl)
          have n1 := ON.out _ (List.getElem_mem hl)
          have n2 := BN.out _ (List.getElem_mem hl)
          obtain ⟨⟨qA, qn, qc, qzs⟩, hr⟩ : ∃ r, T[k] = r := ⟨_, rfl⟩
          rw [hr] at hcell N D n1 n2 ok
          clear hr
          simp only at hcell n1 n2 N D
          subst n1
          have RQ := Lib.hid ok.1
          have LQ := Lib.hid ok.len
          simp only at RQ LQ
          have E2 : Hid (Lw.outR 4096 qzs = true → Lw.cipE T = 2) := by intro ho; rw [E.out, if_pos (D.out ho)]
          clear ok D
          go_wp2
          go_loop [10, 56] (fun x i => ∃ u : Nat, i = .int .i64 (u : Int) ∧ u ≤ qn ∧ Hid (Lw.outR 4096 (qzs.take u) = false)) (fun _ i => qn - (intOf i).toNat)
          case atStart => exact ⟨0, rfl, by omega, rfl⟩
          case round =>
            obtain ⟨u, rfl, u1, TU⟩ := hrel
            by_cases hlu : u < qn
            · have hlz : u < qzs.length := by rw [LQ.out]; exact hlu
              obtain ⟨ad', rfl, _, hcell⟩ := RQ.out.at1 hlu (Lw.intsV_get hlz)
              have NU := Lib.hid (Lw.any_take (p := fun x : Int => decide (x < 0) || decide (4096 ≤ x)) hlz TU.out)
              have MM := Lib.hid (List.getElem_mem hlz)
              obtain ⟨x, hx⟩ : ∃ x, qzs[u] = x := ⟨_, rfl⟩
              rw [hx] at hcell MM NU
              clear hx
              by_cases hx0 : x < 0
              · have E3 := Lib.hid (E2.out (Lw.outR_min MM.out hx0))
                clear NU MM
                go_wp2
                go_ret
                exact ⟨Lw.ret_int E3.out.symm, rfl⟩
              by_cases hx1 : 4096 ≤ x
              · have E3 := Lib.hid (E2.out (Lw.outR_max MM.out hx1))
                clear NU MM
                go_wp2
                go_ret
                exact ⟨Lw.ret_int E3.out.symm, rfl⟩
              · have N1 := Lib.hid (NU.out (by simp; omega))
                clear NU MM
                go_wp2
                go_round
                case rel => exact ⟨u + 1, by go_num, by omega, N1⟩
                case measure => simp [intOf]; omega
            · have hk : qzs.take u = qzs := List.take_of_length_le (by rw [LQ.out]; omega)
              have N1 := TU.out
              rw [hk] at N1
              replace N1 := Lib.hid (N.out N1)
              clear hk
              go_wp2
              go_round
              case rel => exact ⟨k + 1, by go_num, by omega, N1⟩
              case measure => simp [intOf]; omega
        · have hk : T.take k = T := List.take_of_length_le (by rw [L.out]; omega)
          have E0 : Hid (Lw.cipE T = 0) := by have := TK.out; rw [hk] at this; rw [E.out, if_neg (by simp [this])]; exact rfl
          clear hk
          go_wp2
          go_ret
          exact ⟨Lw.ret_int E0.out.symm, rfl⟩
end Go.Proofs.Yteeicpfjmahmeaa
