/- tree.Root; the reference's rows. -/
import Derived.Test.YtnlbnadjolfjpaaTrv
namespace Lw
open Go Go.RowKit
def anyLong (T : List TRow) : Bool := T.any fun r => decide (4096 ≤ r.n)
/-- what is wrong with leafs -/
def lvE (n : Nat) (T : List TRow) : Int := if n = 0 then 5 else if 64 < n ∨ anyLong T = true then 1 else 0
theorem lv_none {n : Nat} {T : List TRow} (h : n = 0) : lvE n T = 5 := if_pos h
theorem lv_large {n : Nat} {T : List TRow} (h : ¬ n = 0) (h2 : 64 < n ∨ anyLong T = true) : lvE n T = 1 := by unfold lvE; rw [if_neg h, if_pos h2]
theorem lv_ok {n : Nat} {T : List TRow} (h : ¬ n = 0) (h2 : ¬ 64 < n) (h3 : anyLong T = false) : lvE n T = 0 := by unfold lvE; rw [if_neg h, if_neg (by simp [h2, h3])]
theorem lv_in {n : Nat} {T : List TRow} (h : lvE n T = 0) : 0 < n ∧ n ≤ 64 ∧ anyLong T = false := by
  by_cases h0 : n = 0
  · rw [lv_none h0] at h; cases h
  · by_cases h2 : 64 < n ∨ anyLong T = true
    · rw [lv_large h0 h2] at h; cases h
    · exact ⟨by omega, by omega, by cases h3 : anyLong T <;> simp_all⟩
theorem lv_cases (n : Nat) (T : List TRow) : lvE n T = 5 ∨ lvE n T = 1 ∨ lvE n T = 0 := by
  unfold lvE; split
  · exact .inl rfl
  · split
    · exact .inr (.inl rfl)
    · exact .inr (.inr rfl)
theorem txtOk_row {w : World} {r : TRow} (h : RowOk .u8 w r) (hn : r.n < 4096) : TxtOk w r := ⟨h, fun z hz => by have := h.2.2 z hz; simp [Lit.wf, IntKind.min, IntKind.max, IntKind.signed, IntKind.bits] at this; omega, by omega⟩
theorem mny_step {n j : Nat} (h : mny n j + j ≤ n) (h1 : 1 < mny n j) : mny n (j + 1) + (j + 1) ≤ n := by
  show (mny n j + 1) / 2 + (j + 1) ≤ n; omega
theorem mny_le {n : Nat} (hn : n ≤ 64) : ∀ k, mny n k ≤ 64
  | 0 => hn
  | k + 1 => by have := mny_le hn k; show (mny n k + 1) / 2 ≤ 64; omega
theorem ndR_get {T : List TRow} {n : Nat} (hT : T.length = n) {k i : Nat} (h : i < mny n (k + 1)) : (ndR T (k + 1)).getD i 0 = if mny n k ≤ 2 * i + 1 then (ndR T k).getD (2 * i) 0 else hsum (pairT ((ndR T k).getD (2 * i) 0) ((ndR T k).getD (2 * i + 1) 0)) := by
  have e := upL_get (ndR T k) (i := i) (by rw [ndR_length, hT]; exact h)
  rw [ndR_length, hT] at e
  exact e
theorem ndR_at {T : List TRow} (k i : Nat) : 0 ≤ (ndR T k).getD i 0 ∧ (ndR T k).getD i 0 < 65536 := getD_bd (ndR_bd T k) i
theorem anyLong_at {T : List TRow} (h : anyLong T = false) {r : TRow} (hr : r ∈ T) : r.n < 4096 := by
  have := List.any_eq_false.1 h r hr
  simpa using this
theorem hgt_le : ∀ n, hgt n ≤ n := by
  intro n
  induction n using Nat.strongRecOn with
  | ind n ih =>
    unfold hgt
    by_cases h : n ≤ 1
    · rw [if_pos h]; omega
    · rw [if_neg h]; have := ih ((n + 1) / 2) (by omega); omega
theorem mny_pos {n : Nat} (h : 0 < n) : ∀ k, 0 < mny n k
  | 0 => h
  | k + 1 => by have := mny_pos h k; show 0 < (mny n k + 1) / 2; omega
end Lw
set_option linter.unusedVariables false
set_option linter.unusedSimpArgs false
namespace Go.Proofs.Ytnlbnadjolfjpaa
open Go.RowKit
set_option maxHeartbeats 1000000 in
theorem long_idx (A : Option Addr) (n c : Nat) (T : List Lw.TRow) (w : World) (R : Lw.Rd w 1 A n (T.map Lw.TRow.v)) (hn : n ≤ 1048576) :
    Calls Try.prog 81 #[.slice A n c, .func (.func 60) #[] #[]] w (Lw.IdxT (Lw.anyLong T) w) := by
  have R := Lib.hid R
  have LP := Lib.hid (show T.length = n by have := R.out.1; simpa using this)
  have BP : Hid (Lw.anyLong T = T.any fun r => decide (4096 ≤ r.n)) := rfl
  go_enter Try.func81, Try.ntmps81
  go_wp2
  go_loop [5, 8] (fun x i => ∃ k : Nat, i = .int .i64 (k : Int) ∧ k ≤ n ∧ Hid ((T.take k).any (fun r => decide (4096 ≤ r.n)) = false)) (fun _ i => n - (intOf i).toNat)
  case atStart => exact ⟨0, rfl, by omega, rfl⟩
  case round =>
    obtain ⟨k, rfl, k1, TK⟩ := hrel
    by_cases hlt : k < n
    · have hlt' : (k : Int) < (n : Int) := by omega
      have hl : k < T.length := by rw [LP.out]; exact hlt
      obtain ⟨ad, rfl, had, hcell⟩ := R.out.at1 (x := T[k].v) hlt (by rw [List.getElem?_map, List.getElem?_eq_getElem hl]; rfl)
      have N := Lib.hid (Lw.any_take (p := fun r : Lw.TRow => decide (4096 ≤ r.n)) hl TK.out)
      have D := Lib.hid (Lw.any_at (p := fun r : Lw.TRow => decide (4096 ≤ r.n)) hl)
      obtain ⟨r, hr⟩ : ∃ r, T[k] = r := ⟨_, rfl⟩
      rw [hr] at hcell N D
      obtain ⟨rA, rn, rc, rz⟩ := r
      simp only [Lw.TRow.v] at hcell N D
      have TX := fun w => tree_long rA rn rc w
      clear hr
      cases h0 : decide (4096 ≤ rn) with
      | true =>
        have D1 := Lib.hid (D.out h0)
        rw [h0] at TX
        replace TX := Lib.hid TX
        clear N D h0
        go_wp2_with (go_at_call 60; (with_reducible refine (TX.out _).mono ?_); rintro e w' ⟨rfl, rfl⟩)
        go_ret
        exact ⟨_, rfl, rfl, .inr ⟨by rw [BP.out]; exact D1.out, by omega⟩⟩
      | false =>
        have N1 := Lib.hid (N.out h0)
        rw [h0] at TX
        replace TX := Lib.hid TX
        clear N D h0
        go_wp2_with (go_at_call 60; (with_reducible refine (TX.out _).mono ?_); rintro e w' ⟨rfl, rfl⟩)
        go_round
        case rel => exact ⟨k + 1, by go_num, by omega, N1⟩
        case measure => simp [intOf]; omega
    · have hlt' : ¬ (k : Int) < (n : Int) := by omega
      have hk : T.take k = T := List.take_of_length_le (by rw [LP.out]; omega)
      have E : Hid (T.any (fun r => decide (4096 ≤ r.n)) = false) := by have := TK.out; rwa [hk] at this
      clear hk
      go_wp2
      go_ret
      exact ⟨_, rfl, rfl, .inl ⟨by rw [BP.out]; exact E.out, rfl⟩⟩
theorem long_con (A : Option Addr) (n c : Nat) (T : List Lw.TRow) (w : World) (R : Lw.Rd w 1 A n (T.map Lw.TRow.v)) (hn : n ≤ 1048576) :
    Calls Try.prog 59 #[.slice A n c, .func (.func 60) #[] #[]] w fun e w' => e = .returned (.bool (Lw.anyLong T)) ∧ w = w' := by
  have X := Lib.hid (long_idx A n c T w R hn)
  clear R
  go_enter Try.func59, Try.ntmps59
  go_wp2_with (go_at_call 81; (with_reducible refine (X.out).mono ?_); rintro e w1 ⟨r, rfl, rfl, hr⟩)
  go_ret
  exact ⟨Lw.ret_bool (Lw.IdxT.ge hr), rfl⟩
set_option maxHeartbeats 1000000 in
theorem tree_wrong (A : Option Addr) (n c : Nat) (T : List Lw.TRow) (w : World) (R : Lw.Rd w 1 A n (T.map Lw.TRow.v)) :
    Calls Try.prog 37 #[.slice A n c] w fun e w' => e = .returned (.int .i64 (Lw.lvE n T)) ∧ w = w' := by
  by_cases h0 : n = 0
  · have E := Lib.hid (Lw.lv_none (T := T) h0)
    generalize Lw.lvE n T = V at *
    subst h0
    clear R
    go_enter Try.func37, Try.ntmps37
    go_wp2
    go_ret
    exact ⟨by rw [E.out]; rfl, rfl⟩
  · have z0 : ((n : Int) == 0) = false := by simp; omega
    by_cases h1 : 64 < n
    · have E := Lib.hid (Lw.lv_large (T := T) h0 (.inl h1))
      have h1' : (64 : Int) < (n : Int) := by omega
      generalize Lw.lvE n T = V at *
      clear R
      go_enter Try.func37, Try.ntmps37
      go_wp2
      go_ret
      exact ⟨by rw [E.out]; rfl, rfl⟩
    · have h1' : ¬ (64 : Int) < (n : Int) := by omega
      have X := long_con A n c T w R (by omega)
      cases hb : Lw.anyLong T with
      | true =>
        have E := Lib.hid (Lw.lv_large h0 (.inr hb))
        rw [hb] at X
        replace X := Lib.hid X
        generalize Lw.lvE n T = V at *
        clear R hb
        go_enter Try.func37, Try.ntmps37
        go_wp2_with (go_at_call 59; (with_reducible refine (X.out).mono ?_); rintro e w1 ⟨rfl, rfl⟩)
        go_ret
        exact ⟨by rw [E.out]; rfl, rfl⟩
      | false =>
        have E := Lib.hid (Lw.lv_ok h0 h1 hb)
        rw [hb] at X
        replace X := Lib.hid X
        generalize Lw.lvE n T = V at *
        clear R hb
        go_enter Try.func37, Try.ntmps37
        go_wp2_with (go_at_call 59; (with_reducible refine (X.out).mono ?_); rintro e w1 ⟨rfl, rfl⟩)
        go_ret
        exact ⟨by rw [E.out]; rfl, rfl⟩
set_option maxHeartbeats 1000000 in
theorem ref_LeafsCheck (A : Option Addr) (n c : Nat) (T : List Lw.TRow) (w : World) (R : Lw.Rd w 1 A n (T.map Lw.TRow.v)) :
    Calls Try.prog 16 #[.slice A n c] w fun e w' => e = .returned (.int .i64 (Lw.lvE n T)) ∧ w = w' := by
  by_cases h0 : n = 0
  · have E := Lib.hid (Lw.lv_none (T := T) h0)
    generalize Lw.lvE n T = V at *
    subst h0
    clear R
    go_enter Try.func16, Try.ntmps16
    go_wp2
    go_ret
    exact ⟨by rw [E.out]; rfl, rfl⟩
  · have z0 : ((n : Int) == 0) = false := by simp; omega
    by_cases h1 : 64 < n
    · have E := Lib.hid (Lw.lv_large (T := T) h0 (.inl h1))
      have h1' : (64 : Int) < (n : Int) := by omega
      generalize Lw.lvE n T = V at *
      clear R
      go_enter Try.func16, Try.ntmps16
      go_wp2
      go_ret
      exact ⟨by rw [E.out]; rfl, rfl⟩
    · have h1' : ¬ (64 : Int) < (n : Int) := by omega
      have LL := Lib.hid (fun h => Lw.lv_large (n := n) (T := T) h0 (.inr h))
      have LO := Lib.hid (Lw.lv_ok (n := n) (T := T) h0 h1)
      have R := Lib.hid R
      have LP := Lib.hid (show T.length = n by have := R.out.1; simpa using this)
      have BP : Hid (Lw.anyLong T = T.any fun r => decide (4096 ≤ r.n)) := rfl
      generalize Lw.lvE n T = V at *
      clear h0
      go_enter Try.func16, Try.ntmps16
      go_wp2
      go_loop [4, 13] (fun x i => ∃ k : Nat, i = .int .i64 (k : Int) ∧ k ≤ n ∧ Hid ((T.take k).any (fun r => decide (4096 ≤ r.n)) = false)) (fun _ i => n - (intOf i).toNat)
      case atStart => exact ⟨0, rfl, by omega, rfl⟩
      case round =>
        obtain ⟨k, rfl, k1, TK⟩ := hrel
        by_cases hlt : k < n
        · have hlt' : (k : Int) < (n : Int) := by omega
          have hl : k < T.length := by rw [LP.out]; exact hlt
          obtain ⟨ad, rfl, had, hcell⟩ := R.out.at1 (x := T[k].v) hlt (by rw [List.getElem?_map, List.getElem?_eq_getElem hl]; rfl)
          have N := Lib.hid (Lw.any_take (p := fun r : Lw.TRow => decide (4096 ≤ r.n)) hl TK.out)
          have D := Lib.hid (Lw.any_at (p := fun r : Lw.TRow => decide (4096 ≤ r.n)) hl)
          obtain ⟨r, hr⟩ : ∃ r, T[k] = r := ⟨_, rfl⟩
          rw [hr] at hcell N D
          obtain ⟨rA, rn, rc, rz⟩ := r
          simp only [Lw.TRow.v] at hcell N D
          clear hr
          by_cases h0 : 4096 ≤ rn
          · have D1 := Lib.hid (D.out (decide_eq_true h0))
            have h0' : (4095 : Int) < (rn : Int) := by omega
            have E := Lib.hid (LL.out (by rw [BP.out]; exact D1.out))
            clear N D h0
            go_wp2
            go_ret
            exact ⟨by rw [E.out]; rfl, rfl⟩
          · have N1 := Lib.hid (N.out (decide_eq_false h0))
            have h0' : ¬ (4095 : Int) < (rn : Int) := by omega
            clear N D h0
            go_wp2
            go_round
            case rel => exact ⟨k + 1, by go_num, by omega, N1⟩
            case measure => simp [intOf]; omega
        · have hlt' : ¬ (k : Int) < (n : Int) := by omega
          have hk : T.take k = T := List.take_of_length_le (by rw [LP.out]; omega)
          have E : Hid (V = 0) := LO.out (by rw [BP.out]; have := TK.out; rwa [hk] at this)
          clear hk
          go_wp2
          go_ret
          exact ⟨by rw [E.out]; rfl, rfl⟩
theorem ref_Many (n k : Nat) (w : World) (hn : n ≤ 64) (hk : k ≤ 64) :
    Calls Try.prog 41 #[.int .i64 (n : Int), .int .i64 (k : Int)] w fun e w' => e = .returned (.int .i64 ((Lw.mny n k : Nat) : Int)) ∧ w = w' := by
  go_enter Try.func41, Try.ntmps41
  go_wp2
  go_loop [0, 5] (fun v i => ∃ j : Nat, i = .int .i64 (j : Int) ∧ j ≤ k ∧ Hid (Lw.mny n j ≤ 64) ∧ v = .int .i64 ((Lw.mny n j : Nat) : Int)) (fun _ i => k - (intOf i).toNat)
  case atStart => exact ⟨0, rfl, by omega, hn, rfl⟩
  case round =>
    obtain ⟨j, rfl, j1, j2, rfl⟩ := hrel
    have E : Hid (Lw.mny n (j + 1) = (Lw.mny n j + 1) / 2) := rfl
    have j2 := j2.out
    by_cases hlt : j < k
    · have hlt' : (j : Int) < (k : Int) := by omega
      obtain ⟨m, hm⟩ : ∃ m, Lw.mny n j = m := ⟨_, rfl⟩
      rw [hm] at E j2 ⊢
      have hq : ((m : Int) + 1) / 2 = (((m + 1) / 2 : Nat) : Int) := by omega
      have HQ := Lib.hid hq
      clear hq hm
      go_wp2
      go_round
      case rel => exact ⟨j + 1, by go_num, by omega, by rw [E.out]; show (m + 1) / 2 ≤ 64; omega, by rw [E.out, ← HQ.out]⟩
      case measure => simp [intOf]; omega
    · have hlt' : ¬ (j : Int) < (k : Int) := by omega
      obtain rfl : j = k := by omega
      go_wp2
      go_ret
      exact ⟨rfl, rfl⟩
set_option maxHeartbeats 1000000 in
theorem ref_Height (n : Nat) (w : World) (h0 : 0 < n) (hn : n ≤ 64) :
    Calls Try.prog 18 #[.int .i64 (n : Int)] w fun e w' => e = .returned (.int .i64 ((Lw.hgt n : Nat) : Int)) ∧ w = w' := by
  go_enter Try.func18, Try.ntmps18
  go_wp2
  go_loop [3] (fun i => ∃ j : Nat, i = .int .i64 (j : Int) ∧ Hid (Lw.mny n j + j ≤ n ∧ ∀ i < j, 1 < Lw.mny n i)) (fun i => n - (intOf i).toNat)
  case atStart => exact ⟨0, rfl, Nat.le_refl _, fun i hi => by omega⟩
  case round =>
    obtain ⟨j, rfl, H⟩ := hrel
    have hj : j ≤ n := by have := H.out.1; omega
    have MM := Lib.hid (fun w => ref_Many n j w hn (by omega))
    by_cases h1 : 1 < Lw.mny n j
    · have h2 : (1 : Int) < ((Lw.mny n j : Nat) : Int) := by omega
      have hjn : j < n := by have := H.out.1; omega
      have ST : Hid (Lw.mny n (j + 1) + (j + 1) ≤ n ∧ ∀ i < j + 1, 1 < Lw.mny n i) := ⟨Lw.mny_step H.out.1 h1, fun i hi => by rcases Nat.lt_succ_iff_lt_or_eq.1 hi with h | rfl; exact H.out.2 i h; exact h1⟩
      generalize Lw.mny n j = m at *
      go_wp2_with (go_at_call 41; (with_reducible refine (MM.out _).mono ?_); rintro e w' ⟨rfl, rfl⟩)
      go_round
      case rel => exact ⟨j + 1, by go_num, ST⟩
      case measure => simp [intOf]; omega
    · have h2 : ¬ (1 : Int) < ((Lw.mny n j : Nat) : Int) := by omega
      have E : Hid (Lw.hgt n = j) := Lw.hgt_eq (by omega) H.out.2
      generalize Lw.mny n j = m at *
      go_wp2_with (go_at_call 41; (with_reducible refine (MM.out _).mono ?_); rintro e w' ⟨rfl, rfl⟩)
      go_ret
      exact ⟨by rw [E.out]; exact rfl, rfl⟩
set_option maxHeartbeats 2000000 in
theorem ref_Node (A : Option Addr) (n c : Nat) (T : List Lw.TRow) (w : World) (R : Lw.Rd w 1 A n (T.map Lw.TRow.v)) (hT : ∀ r ∈ T, Lw.TxtOk w r ∧ r.n ≤ 4096) (hn : n ≤ 64) : ∀ (k i : Nat) (W : World), Below w.heap.size w W → k ≤ 64 → i < Lw.mny n k →
    Calls Try.prog 17 #[.slice A n c, .int .i64 (k : Int), .int .i64 (i : Int)] W fun e w' => e = .returned (.int .i64 ((Lw.ndR T k).getD i 0)) ∧ Below W.heap.size W w' := by
  have LT := Lib.hid (show T.length = n by have := R.1; simpa using this)
  have R := Lib.hid R
  have HT := Lib.hid hT
  clear hT
  intro k
  induction k with
  | zero =>
    intro i W hB _ hi
    have hi : i < n := hi
    have hl : i < T.length := by rw [LT.out]; exact hi
    obtain ⟨ad, rfl, had, hcell⟩ := R.out.at1 (x := T[i].v) hi (by rw [List.getElem?_map, List.getElem?_eq_getElem hl]; rfl)
    obtain ⟨ok, hr2⟩ := HT.out _ (List.getElem_mem hl)
    have GE : Hid ((Lw.ndR T 0).getD i 0 = Lw.lfS T[i]) := by
      show ((T.map Lw.lfS).getD i 0) = _
      rw [List.getD_eq_getElem?_getD, List.getElem?_map, List.getElem?_eq_getElem hl]; rfl
    obtain ⟨r, hr⟩ : ∃ r, T[i] = r := ⟨_, rfl⟩
    rw [hr] at hcell ok hr2 GE
    obtain ⟨rA, rn, rc, rz⟩ := r
    obtain ⟨ok1, ok2, ok3⟩ := ok
    simp only [Lw.TRow.v] at hcell hr2 ok1 ok2 ok3
    have hcw := (hB.cell (p := ad.add i) (by rw [Lw.add_block]; exact had)).trans hcell
    have LF := Lib.hid (ref_LeafText rA rn rc rz W (ok1.1.below (Nat.le_refl _) hB) (by omega))
    have HO := Lib.hid (fun A c w R => ref_Sum A (1 + rn) c (0 :: rz) w R (Lw.leafT_byt ok2) (by omega))
    have LS : Hid (Lw.lfS ⟨rA, rn, rc, rz⟩ = Lw.hsum (0 :: rz)) := rfl
    rw [LS.out] at GE
    generalize Lw.hsum (0 :: rz) = h at *
    generalize (Lw.ndR T 0).getD i 0 = V at *
    have hi' : (i : Int) < (n : Int) := by omega
    clear ok1 ok2 ok3 hr hcell
    go_enter Try.func17, Try.ntmps17
    go_wp2_with fail
    refine LF.out.mono ?_
    rintro e w1 ⟨A1, c1, rfl, own1, hb1⟩
    have RT := Lib.hid (Lw.Rd.of_own own1)
    clear own1
    go_wp2_with fail
    refine (HO.out _ _ _ RT.out).mono ?_
    rintro e w2 ⟨rfl, hb2⟩
    go_wp2
    go_ret
    exact ⟨by rw [GE.out]; exact rfl, Lw.bt hb1 hb2⟩
  | succ k ih =>
    intro i W hB hk hi
    have GE := Lib.hid (Lw.ndR_get LT.out hi)
    have MM := Lib.hid (fun w => ref_Many n k w hn (by omega))
    have ml := Lw.mny_le hn k
    have hi2 : i < (Lw.mny n k + 1) / 2 := hi
    have kz : ((k : Int) + 1 == 0) = false := by simp; omega
    have ke : (k : Int) + 1 - 1 = (k : Int) := by omega
    generalize (Lw.ndR T (k + 1)).getD i 0 = V at *
    by_cases h2 : Lw.mny n k ≤ 2 * i + 1
    · have h2' : ((Lw.mny n k : Nat) : Int) ≤ 2 * (i : Int) + 1 := by omega
      have I1 := ih (2 * i) W hB (by omega) (by omega)
      rw [show (((2 * i : Nat)) : Int) = 2 * (i : Int) by omega] at I1
      replace I1 := Lib.hid I1
      rw [if_pos h2] at GE
      generalize Lw.mny n k = m at *
      generalize (Lw.ndR T k).getD (2 * i) 0 = x at *
      rw [show (((k + 1 : Nat)) : Int) = (k : Int) + 1 by omega]
      clear ih
      go_enter Try.func17, Try.ntmps17
      go_wp2_with (first | (go_at_call 41; (with_reducible refine (MM.out _).mono ?_); rintro e w' ⟨rfl, rfl⟩) | (go_at_call 17; (with_reducible refine (I1.out).mono ?_); rintro e w1 ⟨rfl, hb1⟩))
      go_ret
      exact ⟨by rw [GE.out]; exact rfl, hb1⟩
    · have h2' : ¬ ((Lw.mny n k : Nat) : Int) ≤ 2 * (i : Int) + 1 := by omega
      have I1 := ih (2 * i) W hB (by omega) (by omega)
      have I2 := Lib.hid (fun w1 (hb : Below W.heap.size W w1) => ih (2 * i + 1) w1 (Lw.bt hB hb) (by omega) (by omega))
      rw [show (((2 * i : Nat)) : Int) = 2 * (i : Int) by omega] at I1
      rw [show (((2 * i + 1 : Nat)) : Int) = 2 * (i : Int) + 1 by omega] at I2
      replace I1 := Lib.hid I1
      rw [if_neg h2] at GE
      obtain ⟨x0, x1⟩ := Lw.ndR_at (T := T) k (2 * i)
      obtain ⟨y0, y1⟩ := Lw.ndR_at (T := T) k (2 * i + 1)
      generalize Lw.mny n k = m at *
      generalize (Lw.ndR T k).getD (2 * i) 0 = x at *
      generalize (Lw.ndR T k).getD (2 * i + 1) 0 = y at *
      have PT := Lib.hid (fun w => ref_PairText x y w x0 x1 y0 y1)
      have HO := Lib.hid (fun A c w R => ref_Sum A 5 c (Lw.pairT x y) w R (Lw.pairT_byt _ _) (by decide))
      generalize Lw.hsum (Lw.pairT x y) = h at *
      rw [show (((k + 1 : Nat)) : Int) = (k : Int) + 1 by omega]
      clear ih
      go_enter Try.func17, Try.ntmps17
      go_wp2_with (first | (go_at_call 41; (with_reducible refine (MM.out _).mono ?_); rintro e w' ⟨rfl, rfl⟩) | (go_at_call 17; (with_reducible refine (I1.out).mono ?_); rintro e w1 ⟨rfl, hb1⟩) | (go_at_call 17; (with_reducible refine (I2.out _ hb1).mono ?_); rintro e w2 ⟨rfl, hb2⟩) | (go_at_call 42; (with_reducible refine (PT.out _).mono ?_); rintro e w3 ⟨A3, c3, rfl, own3, hb3⟩; have RT := Lib.hid (Lw.Rd.of_own own3); clear own3) | (go_at_call 31; (with_reducible refine (HO.out _ _ _ RT.out).mono ?_); rintro e w4 ⟨rfl, hb4⟩))
      go_ret
      exact ⟨by rw [GE.out]; exact rfl, Lw.bt (Lw.bt (Lw.bt hb1 hb2) hb3) hb4⟩
theorem root_visit (v : Value) (w : World) : Calls Try.prog 39 #[v] w fun e w' => (∃ v, e = .returned v) ∧ w = w' := by
  go_enter Try.func39, Try.ntmps39
  go_wp2
  go_end0
  exact ⟨⟨_, rfl⟩, rfl⟩
set_option maxHeartbeats 2000000 in
theorem tree_Root (A : Option Addr) (n c : Nat) (T : List Lw.TRow) (w : World) (R : Lw.Rd w 1 A n (T.map Lw.TRow.v)) (hT : ∀ r ∈ T, Lw.RowOk .u8 w r) :
    Calls Try.prog 15 #[.slice A n c] w fun e w' => e = .returned (.tuple #[.int .u32 (if Lw.lvE n T = 0 then (Lw.ndR T (Lw.hgt n)).getD 0 0 else 0), .int .i64 (Lw.lvE n T)]) ∧ Below w.heap.size w w' := by
  have WR := Lib.hid (tree_wrong A n c T w R)
  by_cases h : Lw.lvE n T = 0
  · obtain ⟨h0, hn, hl⟩ := Lw.lv_in h
    rw [if_pos h]
    rw [h] at WR ⊢
    have RW := rows_root A n c T w R (fun r hr => ⟨Lw.txtOk_row (hT r hr) (Lw.anyLong_at hl hr), by have := Lw.anyLong_at hl hr; omega⟩) h0 hn #[] (fun _ _ W => Below w.heap.size w W)
      (fun _ _ _ _ _ h1 h2 _ => Lw.bt h1 h2) (fun _ _ h1 _ => h1) (fun k av W m d h1 _ _ _ _ _ => (root_visit _ W).mono fun e W' ⟨h2, h3⟩ => ⟨h2, by subst h3; exact h1, by subst h3; rfl⟩)
    replace RW := Lib.hid RW
    generalize (Lw.ndR T (Lw.hgt n)).getD 0 0 = V at *
    clear R hT h
    go_enter Try.func15, Try.ntmps15
    go_wp2_with (first | (go_at_call 37; (with_reducible refine (WR.out).mono ?_); rintro e w' ⟨rfl, rfl⟩) | (go_at_call 38; (with_reducible refine (RW.out).mono ?_); rintro e w1 ⟨rfl, _, hb1⟩))
    go_ret2
    exact ⟨rfl, hb1⟩
  · rw [if_neg h]
    have z : (Lw.lvE n T == 0) = false := by simpa using h
    generalize Lw.lvE n T = E at *
    clear R hT h
    go_enter Try.func15, Try.ntmps15
    go_wp2_with (go_at_call 37; (with_reducible refine (WR.out).mono ?_); rintro e w' ⟨rfl, rfl⟩)
    go_ret2
    exact ⟨rfl, Below.refl _ _⟩
end Go.Proofs.Ytnlbnadjolfjpaa
