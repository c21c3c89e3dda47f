/- crt.wrong and the reference's RestsCheck. -/
import Derived.Test.YtoignifimgioaaaRst
import Derived.Test.YtoignifimgioaaaTab
set_option linter.unusedVariables false
set_option linter.unusedSimpArgs false
namespace Go.Proofs.Ytoignifimgioaaa
open Go.RowKit
set_option maxHeartbeats 4000000 in
theorem crt_wrong (A : Option Addr) (n c : Nat) (L : List Lw.RestT) (w : World) (R : Lw.Rd w 2 A n (Lw.pairsV .i64 .i64 L)) :
    Calls Try.prog 55 #[.slice A n c] w fun e w' => e = .returned (.int .i64 (Lw.restE L)) ∧ Below w.heap.size w w' := by
  have hl : L.length = n := by have := R.1; rw [Lw.pairsV_length] at this; omega
  by_cases h1 : 8 < n
  · have E : Hid (Lw.restE L = 1) := by unfold Lw.restE Hid; rw [if_pos (by omega)]
    have i1 : (8 : Int) < (n : Int) := by omega
    clear R hl
    go_enter Try.func55, Try.ntmps55
    go_wp2
    go_ret
    exact ⟨Lw.ret_int E.out.symm, by (repeat (first | exact Below.refl _ _ | refine Lw.bt ?_ (by assumption) | refine Lw.balloc ?_ _ | refine Lw.bdrewN ?_ _ | refine Below.drew ?_ | refine Lw.bset ?_ (by first | (simp; done) | (simp; omega) | omega) _))⟩
  have i1 : ¬ (8 : Int) < (n : Int) := by omega
  have HL := Lib.hid hl
  have R := Lib.hid R
  have EB2 : Hid (L.any Lw.restB = true → Lw.restE L = 2) := fun h => by unfold Lw.restE; rw [if_neg (by omega), if_pos h]
  have EL2 : Hid (L.any Lw.restB = false → Lw.lcmBig L = true → Lw.restE L = 2) := fun h h2 => by unfold Lw.restE; rw [if_neg (by omega), if_neg (by simp [h]), if_pos h2]
  have EO2 : Hid (L.any Lw.restB = false → Lw.lcmBig L = false → Lw.restE L = 0) := fun h h2 => by unfold Lw.restE; rw [if_neg (by omega), if_neg (by simp [h]), if_neg (by simp [h2])]
  have FR := Lib.hid (fun x w => ref_Far x w)
  clear hl
  go_enter Try.func55, Try.ntmps55
  go_wp2
  go_loopw [4, 13] (fun p i wr => ∃ k : Nat, k ≤ n ∧ i = .int .i64 (k : Int) ∧ Hid ((L.take k).any Lw.restB = false) ∧ Below w.heap.size w wr) (fun _ i _ => n - (intOf i).toNat)
  case atStart => exact ⟨0, by omega, rfl, rfl, Below.refl _ _⟩
  case round =>
    obtain ⟨k, k1, rfl, TK, hB⟩ := hrel
    by_cases hlt : k < n
    · have hl : k < L.length := by rw [HL.out]; exact hlt
      obtain ⟨g0, g1⟩ := Lw.pairsV_get (k := .i64) (l := .i64) hl
      obtain ⟨ad, rfl, had, c0, c1⟩ := (R.out.below (Nat.le_refl _) hB).at2 hlt g0 g1
      have N := Lib.hid (Lw.any_take (p := Lw.restB) hl TK.out)
      have D := Lib.hid (Lw.any_at (p := Lw.restB) hl)
      obtain ⟨⟨a, m⟩, hs⟩ : ∃ s, L[k] = s := ⟨_, rfl⟩
      rw [hs] at c0 c1 N D
      simp only at c0 c1
      clear hs g0 g1
      have hall : m < 1 ∨ (1 ≤ m ∧ 1048576 < m) ∨ (1 ≤ m ∧ m ≤ 1048576 ∧ a < -2147483648) ∨ (1 ≤ m ∧ m ≤ 1048576 ∧ -2147483648 ≤ a ∧ 2147483648 < a) ∨ (1 ≤ m ∧ m ≤ 1048576 ∧ -2147483648 ≤ a ∧ a ≤ 2147483648) := by omega
      rcases hall with h | ⟨h, h'⟩ | ⟨h, h', h''⟩ | ⟨h, h', h'', h3⟩ | ⟨h, h', h'', h3⟩
      · have E := Lib.hid (EB2.out (D.out (by unfold Lw.restB; simp; omega)))
        clear N D
        go_wp2
        go_ret
        exact ⟨Lw.ret_int E.out.symm, by (repeat (first | exact Below.refl _ _ | refine Lw.bt ?_ (by assumption) | refine Lw.balloc ?_ _ | refine Lw.bdrewN ?_ _ | refine Below.drew ?_ | refine Lw.bset ?_ (by first | (simp; done) | (simp; omega) | omega) _))⟩
      · have E := Lib.hid (EB2.out (D.out (by unfold Lw.restB; simp; omega)))
        clear N D
        go_wp2
        go_ret
        exact ⟨Lw.ret_int E.out.symm, by (repeat (first | exact Below.refl _ _ | refine Lw.bt ?_ (by assumption) | refine Lw.balloc ?_ _ | refine Lw.bdrewN ?_ _ | refine Below.drew ?_ | refine Lw.bset ?_ (by first | (simp; done) | (simp; omega) | omega) _))⟩
      · have E := Lib.hid (EB2.out (D.out (by unfold Lw.restB Lw.farB; simp; omega)))
        have F1 := fun w => FR.out a w
        rw [Lw.farB_true (.inl h'')] at F1
        replace F1 := Lib.hid F1
        clear N D
        go_wp2_with fail
        go_ret
        exact ⟨Lw.ret_int E.out.symm, by (repeat (first | exact Below.refl _ _ | refine Lw.bt ?_ (by assumption) | refine Lw.balloc ?_ _ | refine Lw.bdrewN ?_ _ | refine Below.drew ?_ | refine Lw.bset ?_ (by first | (simp; done) | (simp; omega) | omega) _))⟩
      · have E := Lib.hid (EB2.out (D.out (by unfold Lw.restB Lw.farB; simp; omega)))
        have F1 := fun w => FR.out a w
        rw [Lw.farB_true (.inr h3)] at F1
        replace F1 := Lib.hid F1
        clear N D
        go_wp2_with fail
        go_ret
        exact ⟨Lw.ret_int E.out.symm, by (repeat (first | exact Below.refl _ _ | refine Lw.bt ?_ (by assumption) | refine Lw.balloc ?_ _ | refine Lw.bdrewN ?_ _ | refine Below.drew ?_ | refine Lw.bset ?_ (by first | (simp; done) | (simp; omega) | omega) _))⟩
      · have hf := Lw.farB_false (x := a) (by omega)
        have N1 := Lib.hid (N.out (by unfold Lw.restB; rw [hf]; simp; omega))
        have F1 := fun w => FR.out a w
        rw [hf] at F1
        replace F1 := Lib.hid F1
        clear N D hf
        go_wp2_with fail
        go_roundw
        case rel => exact ⟨k + 1, by omega, by go_num, N1, Lw.balloc hB _⟩
        case measure => simp [intOf]; omega
    obtain rfl : k = n := by omega
    have hk : L.take k = L := List.take_of_length_le (by rw [HL.out]; omega)
    have B := TK.out
    rw [hk] at B
    have OK := Lib.hid (show ∀ r ∈ L, 1 ≤ r.2 ∧ r.2 ≤ 1048576 from fun r hr => by have := List.any_eq_false.1 B r hr; unfold Lw.restB at this; simp at this; omega)
    have EL := Lib.hid (EL2.out B)
    have EO := Lib.hid (EO2.out B)
    clear hk TK B EB2 EL2 EO2 hlt k1
    go_wp2
    go_loopw [5, 7, 38] (fun mm p i wr => ∃ j : Nat, j ≤ k ∧ i = .int .i64 (j : Int) ∧ mm = .int .i64 (Lw.lcmP (L.take j)) ∧ Hid (∀ u, u ≤ j → Lw.lcmP (L.take u) ≤ 2147483648) ∧ Below w.heap.size w wr) (fun _ _ i _ => k - (intOf i).toNat)
    case atStart => exact ⟨0, by omega, rfl, rfl, (by intro u hu; have : u = 0 := (by omega); subst this; show (1 : Int) ≤ 2147483648; omega), hB⟩
    case round =>
      obtain ⟨j, j1, rfl, rfl, TU, hB2⟩ := hrel
      have s1 := TU.out j (Nat.le_refl _)
      have s0 := Lw.lcmP_pos (L := L.take j) (fun r hr => (OK.out r (List.mem_of_mem_take hr)).1)
      by_cases hlt : j < k
      · have hl : j < L.length := by rw [HL.out]; exact hlt
        obtain ⟨g0, g1⟩ := Lw.pairsV_get (k := .i64) (l := .i64) hl
        obtain ⟨ad, rfl, had, c0, c1⟩ := (R.out.below (Nat.le_refl _) hB2).at2 hlt g0 g1
        have mb := OK.out _ (List.getElem_mem hl)
        have e0 := Lw.lcmP_take hl
        obtain ⟨⟨a, m⟩, hs⟩ : ∃ s, L[j] = s := ⟨_, rfl⟩
        rw [hs] at c0 c1 mb e0
        simp only at c0 c1 mb e0
        obtain ⟨M, hM⟩ : ∃ M, Lw.lcmP (L.take j) = M := ⟨_, rfl⟩
        obtain ⟨M', hM'⟩ : ∃ M, Lw.lcmP (L.take (j + 1)) = M := ⟨_, rfl⟩
        rw [hM] at s0 s1 e0
        rw [hM'] at e0
        rw [hM]
        obtain ⟨mb0, mb1⟩ := mb
        have LC := fun w => euclid_Lcm M m w (Lw.farB_false (by omega)) (Lw.farB_false (by omega))
        rw [← e0] at LC
        replace LC := Lib.hid LC
        have EB1 := Lib.hid (show 2147483648 < M' → Lw.lcmBig L = true from fun h => by
          unfold Lw.lcmBig
          exact List.any_eq_true.2 ⟨j + 1, by simp; omega, by rw [hM']; simpa using h⟩)
        have TU1 := Lib.hid (show ¬ 2147483648 < M' → ∀ u, u ≤ j + 1 → Lw.lcmP (L.take u) ≤ 2147483648 from fun h u hu => by
          rcases Nat.lt_or_ge u (j + 1) with h2 | h2
          · exact TU.out u (by omega)
          · obtain rfl : u = j + 1 := by omega
            rw [hM']; omega)
        clear hs g0 g1 e0 hM
        by_cases hbig : 2147483648 < M'
        · have E := Lib.hid (EL.out (EB1.out hbig))
          clear EB1 TU1
          go_wp2_with (go_at_call 60; (with_reducible refine (LC.out _).mono ?_); rintro e w5 ⟨rfl, hb5⟩)
          go_ret
          exact ⟨Lw.ret_int E.out.symm, by first | exact Lw.bt (Lw.balloc hB2 _) hb5 | exact Lw.bdrewN (Lw.balloc hB2 _) _⟩
        · have T1 := Lib.hid (TU1.out hbig)
          clear EB1 TU1
          go_wp2_with (go_at_call 60; (with_reducible refine (LC.out _).mono ?_); rintro e w5 ⟨rfl, hb5⟩)
          go_roundw
          case rel => exact ⟨j + 1, by omega, by go_num, by rw [hM'], T1, by first | exact Lw.bt (Lw.balloc hB2 _) hb5 | exact Lw.bdrewN (Lw.balloc hB2 _) _⟩
          case measure => simp [intOf]; omega
      · obtain rfl : j = k := by omega
        have E := Lib.hid (EO.out (by
          unfold Lw.lcmBig
          rw [List.any_eq_false]
          intro u hu
          have := TU.out u (by simp at hu; have := HL.out; omega)
          simpa using this))
        clear s0 s1
        go_wp2
        go_ret
        exact ⟨Lw.ret_int E.out.symm, by (repeat (first | exact Below.refl _ _ | refine Lw.bt ?_ (by assumption) | refine Lw.balloc ?_ _ | refine Lw.bdrewN ?_ _ | refine Below.drew ?_ | refine Lw.bset ?_ (by first | (simp; done) | (simp; omega) | omega) _))⟩

set_option maxHeartbeats 4000000 in
theorem ref_RestsCheck (A : Option Addr) (n c : Nat) (L : List Lw.RestT) (w : World) (R : Lw.Rd w 2 A n (Lw.pairsV .i64 .i64 L)) :
    Calls Try.prog 28 #[.slice A n c] w fun e w' => e = .returned (.int .i64 (Lw.restE L)) ∧ Below w.heap.size w w' := by
  have hl : L.length = n := by have := R.1; rw [Lw.pairsV_length] at this; omega
  by_cases h1 : 8 < n
  · have E : Hid (Lw.restE L = 1) := by unfold Lw.restE Hid; rw [if_pos (by omega)]
    have i1 : (8 : Int) < (n : Int) := by omega
    clear R hl
    go_enter Try.func28, Try.ntmps28
    go_wp2
    go_ret
    exact ⟨Lw.ret_int E.out.symm, by (repeat (first | exact Below.refl _ _ | refine Lw.bt ?_ (by assumption) | refine Lw.balloc ?_ _ | refine Lw.bdrewN ?_ _ | refine Below.drew ?_ | refine Lw.bset ?_ (by first | (simp; done) | (simp; omega) | omega) _))⟩
  have i1 : ¬ (8 : Int) < (n : Int) := by omega
  have HL := Lib.hid hl
  have R := Lib.hid R
  have EB2 : Hid (L.any Lw.restB = true → Lw.restE L = 2) := fun h => by unfold Lw.restE; rw [if_neg (by omega), if_pos h]
  have EL2 : Hid (L.any Lw.restB = false → Lw.lcmBig L = true → Lw.restE L = 2) := fun h h2 => by unfold Lw.restE; rw [if_neg (by omega), if_neg (by simp [h]), if_pos h2]
  have EO2 : Hid (L.any Lw.restB = false → Lw.lcmBig L = false → Lw.restE L = 0) := fun h h2 => by unfold Lw.restE; rw [if_neg (by omega), if_neg (by simp [h]), if_neg (by simp [h2])]
  have FR := Lib.hid (fun x w => ref_Far x w)
  clear hl
  go_enter Try.func28, Try.ntmps28
  go_wp2
  go_loopw [4, 13] (fun p i wr => ∃ k : Nat, k ≤ n ∧ i = .int .i64 (k : Int) ∧ Hid ((L.take k).any Lw.restB = false) ∧ Below w.heap.size w wr) (fun _ i _ => n - (intOf i).toNat)
  case atStart => exact ⟨0, by omega, rfl, rfl, Below.refl _ _⟩
  case round =>
    obtain ⟨k, k1, rfl, TK, hB⟩ := hrel
    by_cases hlt : k < n
    · have hl : k < L.length := by rw [HL.out]; exact hlt
      obtain ⟨g0, g1⟩ := Lw.pairsV_get (k := .i64) (l := .i64) hl
      obtain ⟨ad, rfl, had, c0, c1⟩ := (R.out.below (Nat.le_refl _) hB).at2 hlt g0 g1
      have N := Lib.hid (Lw.any_take (p := Lw.restB) hl TK.out)
      have D := Lib.hid (Lw.any_at (p := Lw.restB) hl)
      obtain ⟨⟨a, m⟩, hs⟩ : ∃ s, L[k] = s := ⟨_, rfl⟩
      rw [hs] at c0 c1 N D
      simp only at c0 c1
      clear hs g0 g1
      have hall : m < 1 ∨ (1 ≤ m ∧ 1048576 < m) ∨ (1 ≤ m ∧ m ≤ 1048576 ∧ a < -2147483648) ∨ (1 ≤ m ∧ m ≤ 1048576 ∧ -2147483648 ≤ a ∧ 2147483648 < a) ∨ (1 ≤ m ∧ m ≤ 1048576 ∧ -2147483648 ≤ a ∧ a ≤ 2147483648) := by omega
      rcases hall with h | ⟨h, h'⟩ | ⟨h, h', h''⟩ | ⟨h, h', h'', h3⟩ | ⟨h, h', h'', h3⟩
      · have E := Lib.hid (EB2.out (D.out (by unfold Lw.restB; simp; omega)))
        clear N D
        go_wp2
        go_ret
        exact ⟨Lw.ret_int E.out.symm, by (repeat (first | exact Below.refl _ _ | refine Lw.bt ?_ (by assumption) | refine Lw.balloc ?_ _ | refine Lw.bdrewN ?_ _ | refine Below.drew ?_ | refine Lw.bset ?_ (by first | (simp; done) | (simp; omega) | omega) _))⟩
      · have E := Lib.hid (EB2.out (D.out (by unfold Lw.restB; simp; omega)))
        clear N D
        go_wp2
        go_ret
        exact ⟨Lw.ret_int E.out.symm, by (repeat (first | exact Below.refl _ _ | refine Lw.bt ?_ (by assumption) | refine Lw.balloc ?_ _ | refine Lw.bdrewN ?_ _ | refine Below.drew ?_ | refine Lw.bset ?_ (by first | (simp; done) | (simp; omega) | omega) _))⟩
      · have E := Lib.hid (EB2.out (D.out (by unfold Lw.restB Lw.farB; simp; omega)))
        have F1 := fun w => FR.out a w
        rw [Lw.farB_true (.inl h'')] at F1
        replace F1 := Lib.hid F1
        clear N D
        go_wp2_with (go_at_call 46; (with_reducible refine (F1.out _).mono ?_); rintro e w' ⟨rfl, rfl⟩)
        go_ret
        exact ⟨Lw.ret_int E.out.symm, by (repeat (first | exact Below.refl _ _ | refine Lw.bt ?_ (by assumption) | refine Lw.balloc ?_ _ | refine Lw.bdrewN ?_ _ | refine Below.drew ?_ | refine Lw.bset ?_ (by first | (simp; done) | (simp; omega) | omega) _))⟩
      · have E := Lib.hid (EB2.out (D.out (by unfold Lw.restB Lw.farB; simp; omega)))
        have F1 := fun w => FR.out a w
        rw [Lw.farB_true (.inr h3)] at F1
        replace F1 := Lib.hid F1
        clear N D
        go_wp2_with (go_at_call 46; (with_reducible refine (F1.out _).mono ?_); rintro e w' ⟨rfl, rfl⟩)
        go_ret
        exact ⟨Lw.ret_int E.out.symm, by (repeat (first | exact Below.refl _ _ | refine Lw.bt ?_ (by assumption) | refine Lw.balloc ?_ _ | refine Lw.bdrewN ?_ _ | refine Below.drew ?_ | refine Lw.bset ?_ (by first | (simp; done) | (simp; omega) | omega) _))⟩
      · have hf := Lw.farB_false (x := a) (by omega)
        have N1 := Lib.hid (N.out (by unfold Lw.restB; rw [hf]; simp; omega))
        have F1 := fun w => FR.out a w
        rw [hf] at F1
        replace F1 := Lib.hid F1
        clear N D hf
        go_wp2_with (go_at_call 46; (with_reducible refine (F1.out _).mono ?_); rintro e w' ⟨rfl, rfl⟩)
        go_roundw
        case rel => exact ⟨k + 1, by omega, by go_num, N1, Lw.balloc hB _⟩
        case measure => simp [intOf]; omega
    obtain rfl : k = n := by omega
    have hk : L.take k = L := List.take_of_length_le (by rw [HL.out]; omega)
    have B := TK.out
    rw [hk] at B
    have OK := Lib.hid (show ∀ r ∈ L, 1 ≤ r.2 ∧ r.2 ≤ 1048576 from fun r hr => by have := List.any_eq_false.1 B r hr; unfold Lw.restB at this; simp at this; omega)
    have EL := Lib.hid (EL2.out B)
    have EO := Lib.hid (EO2.out B)
    clear hk TK B EB2 EL2 EO2 hlt k1
    go_wp2
    go_loopw [5, 7, 33] (fun mm p i wr => ∃ j : Nat, j ≤ k ∧ i = .int .i64 (j : Int) ∧ mm = .int .i64 (Lw.lcmP (L.take j)) ∧ Hid (∀ u, u ≤ j → Lw.lcmP (L.take u) ≤ 2147483648) ∧ Below w.heap.size w wr) (fun _ _ i _ => k - (intOf i).toNat)
    case atStart => exact ⟨0, by omega, rfl, rfl, (by intro u hu; have : u = 0 := (by omega); subst this; show (1 : Int) ≤ 2147483648; omega), hB⟩
    case round =>
      obtain ⟨j, j1, rfl, rfl, TU, hB2⟩ := hrel
      have s1 := TU.out j (Nat.le_refl _)
      have s0 := Lw.lcmP_pos (L := L.take j) (fun r hr => (OK.out r (List.mem_of_mem_take hr)).1)
      by_cases hlt : j < k
      · have hl : j < L.length := by rw [HL.out]; exact hlt
        obtain ⟨g0, g1⟩ := Lw.pairsV_get (k := .i64) (l := .i64) hl
        obtain ⟨ad, rfl, had, c0, c1⟩ := (R.out.below (Nat.le_refl _) hB2).at2 hlt g0 g1
        have mb := OK.out _ (List.getElem_mem hl)
        have e0 := Lw.lcmP_take hl
        obtain ⟨⟨a, m⟩, hs⟩ : ∃ s, L[j] = s := ⟨_, rfl⟩
        rw [hs] at c0 c1 mb e0
        simp only at c0 c1 mb e0
        obtain ⟨M, hM⟩ : ∃ M, Lw.lcmP (L.take j) = M := ⟨_, rfl⟩
        obtain ⟨M', hM'⟩ : ∃ M, Lw.lcmP (L.take (j + 1)) = M := ⟨_, rfl⟩
        rw [hM] at s0 s1 e0
        rw [hM'] at e0
        rw [hM]
        obtain ⟨mb0, mb1⟩ := mb
        have LC := fun w => ref_Lcm M m w (by omega) (by omega) (by omega) (by omega)
        rw [← e0] at LC
        replace LC := Lib.hid LC
        have EB1 := Lib.hid (show 2147483648 < M' → Lw.lcmBig L = true from fun h => by
          unfold Lw.lcmBig
          exact List.any_eq_true.2 ⟨j + 1, by simp; omega, by rw [hM']; simpa using h⟩)
        have TU1 := Lib.hid (show ¬ 2147483648 < M' → ∀ u, u ≤ j + 1 → Lw.lcmP (L.take u) ≤ 2147483648 from fun h u hu => by
          rcases Nat.lt_or_ge u (j + 1) with h2 | h2
          · exact TU.out u (by omega)
          · obtain rfl : u = j + 1 := by omega
            rw [hM']; omega)
        clear hs g0 g1 e0 hM
        by_cases hbig : 2147483648 < M'
        · have E := Lib.hid (EL.out (EB1.out hbig))
          clear EB1 TU1
          go_wp2_with (go_at_call 30; (with_reducible refine (LC.out _).mono ?_); rintro e w' ⟨rfl, dd, rfl⟩)
          go_ret
          exact ⟨Lw.ret_int E.out.symm, by first | exact Lw.bt (Lw.balloc hB2 _) hb5 | exact Lw.bdrewN (Lw.balloc hB2 _) _⟩
        · have T1 := Lib.hid (TU1.out hbig)
          clear EB1 TU1
          go_wp2_with (go_at_call 30; (with_reducible refine (LC.out _).mono ?_); rintro e w' ⟨rfl, dd, rfl⟩)
          go_roundw
          case rel => exact ⟨j + 1, by omega, by go_num, by rw [hM'], T1, by first | exact Lw.bt (Lw.balloc hB2 _) hb5 | exact Lw.bdrewN (Lw.balloc hB2 _) _⟩
          case measure => simp [intOf]; omega
      · obtain rfl : j = k := by omega
        have E := Lib.hid (EO.out (by
          unfold Lw.lcmBig
          rw [List.any_eq_false]
          intro u hu
          have := TU.out u (by simp at hu; have := HL.out; omega)
          simpa using this))
        clear s0 s1
        go_wp2
        go_ret
        exact ⟨Lw.ret_int E.out.symm, by (repeat (first | exact Below.refl _ _ | refine Lw.bt ?_ (by assumption) | refine Lw.balloc ?_ _ | refine Lw.bdrewN ?_ _ | refine Below.drew ?_ | refine Lw.bset ?_ (by first | (simp; done) | (simp; omega) | omega) _))⟩

end Go.Proofs.Ytoignifimgioaaa
