/- The law RelayPlays: what each hop of a script does. -/
import Derived.Test.YtkjcpjbdckbjcaaKRelayPlays15
import Derived.Test.YtkjcpjbdckbjcaaKRelayPlays14
import Derived.Test.YtkjcpjbdckbjcaaKRelayPlays3
set_option linter.unusedVariables false
namespace Lw
/-- the code, k secrets seen -/
def lawX (E Q : Int) (ss : List Int) (k : Nat) : Int := if E = 0 then (if outR Q (ss.take k) = true then 2 else 0) else E
theorem lawX_ne {E : Int} (h : ¬ E = 0) (Q : Int) (ss : List Int) (k : Nat) : lawX E Q ss k = E := if_neg h
theorem lawX_zero (Q : Int) (ss : List Int) : lawX 0 Q ss 0 = 0 := rfl
theorem outR_take {Q : Int} {ss : List Int} {k : Nat} (h : k < ss.length) : outR Q (ss.take (k + 1)) = (outR Q (ss.take k) || (decide (ss[k] < 0) || decide (Q ≤ ss[k]))) := by
  unfold outR
  rw [List.take_succ_eq_append_getElem h, List.any_append]; simp
end Lw
namespace Go.Proofs.Ytkjcpjbdckbjcaa
open Go.RowKit
end Go.Proofs.Ytkjcpjbdckbjcaa
namespace Go.Proofs.Ytkjcpjbdckbjcaa.LW
open Go.RowKit
set_option maxHeartbeats 4000000 in
/-- a code of a group, or of sizes -/
theorem relay_code (P Q G H X E : Int) (SA : Option Addr) (sn sc : Nat) (ss : List Int) (A : Option Addr) (n c : Nat) (w : World) (RS : Lw.Rd w 1 SA sn (Lw.intsV .i64 ss)) (hsn : sn ≤ 9223372036854775807)
    (hX : Lw.groupE P Q G H = X) (hE : (X = E ∧ (E == 0) = false) ∨ (X = 0 ∧ E = 1 ∧ (3 < sn ∨ 100 < n)))
    (PL : ∀ w, Calls Try.prog 6 #[.agg #[.int .i64 P, .int .i64 Q, .int .i64 G, .int .i64 H], .slice SA sn sc, .slice A n c] w fun e w' => e = .returned (.tuple #[.slice none 0 0, .int .i64 E]) ∧ Below w.heap.size w w') :
    Calls Try.prog 5 #[.agg #[.int .i64 P, .int .i64 Q, .int .i64 G, .int .i64 H], .slice SA sn sc, .slice A n c] w fun e w' => e = .returned (.bool true) ∧ Below w.heap.size w w' := by
  have LS := Lib.hid (show ss.length = sn by have := RS.1; simpa [Lw.intsV] using this)
  have CK := Lib.hid (fun w => hX ▸ ref_GroupCheck P Q G H w)
  have PL := Lib.hid PL
  have RS := Lib.hid RS
  clear hX
  have z0 : (E == E) = true := by simp
  rcases (by
    rcases hE with ⟨rfl, h⟩ | ⟨rfl, rfl, h⟩
    · exact .inl ⟨rfl, h⟩
    · rcases (by omega : 3 < sn ∨ (¬ 3 < sn ∧ 100 < n)) with h | h
      · exact .inr (.inl ⟨rfl, rfl, h⟩)
      · exact .inr (.inr ⟨rfl, rfl, h⟩) : (X = E ∧ (E == 0) = false) ∨ (X = 0 ∧ E = 1 ∧ 3 < sn) ∨ (X = 0 ∧ E = 1 ∧ ¬ 3 < sn ∧ 100 < n)) with ⟨rfl, h1⟩ | ⟨rfl, rfl, h2⟩ | ⟨rfl, rfl, h3, h4⟩
  · have h1' : (X != 0) = true := by simpa using h1
    clear hE
    go_enter Try.func5, Try.ntmps5
    go_wp2_with (first | (go_at_call 6; (with_reducible refine (PL.out _).mono ?_); rintro e w1 ⟨rfl, hb1⟩; have BG1 := (hb1.block w.heap.size (by simp)).trans (Lw.blk_new w _ _); have c0 := Lw.blk_cell BG1 0; have c1 := Lw.blk_cell BG1 1; have c2 := Lw.blk_cell BG1 2; have c3 := Lw.blk_cell BG1 3; simp at c0 c1 c2 c3) | (go_at_call 9; (with_reducible refine (CK.out _).mono ?_); rintro e w2 ⟨rfl, hb2⟩))
    go_loopw [9, 11, 35] (fun v9 _ i wr => ∃ k : Nat, i = .int .i64 (k : Int) ∧ k ≤ sn ∧ v9 = .int .i64 X ∧ Below w.heap.size w wr) (fun _ _ i _ => sn - (intOf i).toNat)
    case atStart => exact ⟨0, rfl, by omega, rfl, by (repeat (first | exact Below.refl _ _ | refine Lw.bt ?_ (by assumption) | refine Lw.balloc ?_ _ | refine Lw.bdrewN ?_ _ | refine Below.drew ?_ | refine Lw.bset ?_ (by first | (simp; done) | (simp; omega) | omega) _))⟩
    case round =>
      obtain ⟨k, rfl, k1, rfl, hB⟩ := hrel
      by_cases hlt : k < sn
      · have hlt' : (k : Int) < (sn : Int) := by omega
        have hl : k < ss.length := by rw [LS.out]; exact hlt
        obtain ⟨ad, rfl, had, hc⟩ := (RS.out.below (Nat.le_refl _) hB).at1 hlt (Lw.intsV_get hl)
        go_wp2
        go_roundw
        case rel => exact ⟨k + 1, by go_num, by omega, rfl, hB⟩
        case measure => simp [intOf]; omega
      · have hlt' : ¬ (k : Int) < (sn : Int) := by omega
        go_wp2
        go_ret
        exact ⟨by simp, hB⟩

  · have h2' : (3 : Int) < (sn : Int) := by omega
    clear hE h2
    go_enter Try.func5, Try.ntmps5
    go_wp2_with (first | (go_at_call 6; (with_reducible refine (PL.out _).mono ?_); rintro e w1 ⟨rfl, hb1⟩; have BG1 := (hb1.block w.heap.size (by simp)).trans (Lw.blk_new w _ _); have c0 := Lw.blk_cell BG1 0; have c1 := Lw.blk_cell BG1 1; have c2 := Lw.blk_cell BG1 2; have c3 := Lw.blk_cell BG1 3; simp at c0 c1 c2 c3) | (go_at_call 9; (with_reducible refine (CK.out _).mono ?_); rintro e w2 ⟨rfl, hb2⟩))
    go_loopw [9, 11, 35] (fun v9 _ i wr => ∃ k : Nat, i = .int .i64 (k : Int) ∧ k ≤ sn ∧ v9 = .int .i64 1 ∧ Below w.heap.size w wr) (fun _ _ i _ => sn - (intOf i).toNat)
    case atStart => exact ⟨0, rfl, by omega, rfl, by (repeat (first | exact Below.refl _ _ | refine Lw.bt ?_ (by assumption) | refine Lw.balloc ?_ _ | refine Lw.bdrewN ?_ _ | refine Below.drew ?_ | refine Lw.bset ?_ (by first | (simp; done) | (simp; omega) | omega) _))⟩
    case round =>
      obtain ⟨k, rfl, k1, rfl, hB⟩ := hrel
      by_cases hlt : k < sn
      · have hlt' : (k : Int) < (sn : Int) := by omega
        have hl : k < ss.length := by rw [LS.out]; exact hlt
        obtain ⟨ad, rfl, had, hc⟩ := (RS.out.below (Nat.le_refl _) hB).at1 hlt (Lw.intsV_get hl)
        go_wp2
        go_roundw
        case rel => exact ⟨k + 1, by go_num, by omega, rfl, hB⟩
        case measure => simp [intOf]; omega
      · have hlt' : ¬ (k : Int) < (sn : Int) := by omega
        go_wp2
        go_ret
        exact ⟨by simp, hB⟩

  · have h3' : ¬ (3 : Int) < (sn : Int) := by omega
    have h4' : (100 : Int) < (n : Int) := by omega
    clear hE h3 h4
    go_enter Try.func5, Try.ntmps5
    go_wp2_with (first | (go_at_call 6; (with_reducible refine (PL.out _).mono ?_); rintro e w1 ⟨rfl, hb1⟩; have BG1 := (hb1.block w.heap.size (by simp)).trans (Lw.blk_new w _ _); have c0 := Lw.blk_cell BG1 0; have c1 := Lw.blk_cell BG1 1; have c2 := Lw.blk_cell BG1 2; have c3 := Lw.blk_cell BG1 3; simp at c0 c1 c2 c3) | (go_at_call 9; (with_reducible refine (CK.out _).mono ?_); rintro e w2 ⟨rfl, hb2⟩))
    go_loopw [9, 11, 35] (fun v9 _ i wr => ∃ k : Nat, i = .int .i64 (k : Int) ∧ k ≤ sn ∧ v9 = .int .i64 1 ∧ Below w.heap.size w wr) (fun _ _ i _ => sn - (intOf i).toNat)
    case atStart => exact ⟨0, rfl, by omega, rfl, by (repeat (first | exact Below.refl _ _ | refine Lw.bt ?_ (by assumption) | refine Lw.balloc ?_ _ | refine Lw.bdrewN ?_ _ | refine Below.drew ?_ | refine Lw.bset ?_ (by first | (simp; done) | (simp; omega) | omega) _))⟩
    case round =>
      obtain ⟨k, rfl, k1, rfl, hB⟩ := hrel
      by_cases hlt : k < sn
      · have hlt' : (k : Int) < (sn : Int) := by omega
        have hl : k < ss.length := by rw [LS.out]; exact hlt
        obtain ⟨ad, rfl, had, hc⟩ := (RS.out.below (Nat.le_refl _) hB).at1 hlt (Lw.intsV_get hl)
        go_wp2
        go_roundw
        case rel => exact ⟨k + 1, by go_num, by omega, rfl, hB⟩
        case measure => simp [intOf]; omega
      · have hlt' : ¬ (k : Int) < (sn : Int) := by omega
        go_wp2
        go_ret
        exact ⟨by simp, hB⟩

set_option maxHeartbeats 4000000 in
/-- sizes that may be -/
theorem relay_fits (P Q G H : Int) (SA : Option Addr) (sn sc : Nat) (ss : List Int) (A : Option Addr) (n c : Nat) (L : List Lw.Hp) (w : World) (hg : Lw.groupE P Q G H = 0) (RS : Lw.Rd w 1 SA sn (Lw.intsV .i64 ss)) (hsn : sn ≤ 3) (R : Lw.Rd w 7 A n (Lw.hpsV L)) (hL : ∀ x ∈ L, x.ok w) (hn : n ≤ 100) :
    Calls Try.prog 5 #[.agg #[.int .i64 P, .int .i64 Q, .int .i64 G, .int .i64 H], .slice SA sn sc, .slice A n c] w fun e w' => e = .returned (.bool true) ∧ Below w.heap.size w w' := by
  have LS := Lib.hid (show ss.length = sn by have := RS.1; simpa [Lw.intsV] using this)
  have LL := Lib.hid (show L.length = n by have := R.1; rw [Lw.hpsV_length] at this; omega)
  have CK := Lib.hid (fun w => hg ▸ ref_GroupCheck P Q G H w)
  have h3' : ¬ (3 : Int) < (sn : Int) := by omega
  have h4' : ¬ (100 : Int) < (n : Int) := by omega
  have RSH := Lib.hid RS
  by_cases hr : Lw.outR Q ss = true
  · have PL := Lib.hid (fun w' (hb : Below w.heap.size w w') => play_range P Q G H SA sn sc ss A n c w' hg (RS.below (Nat.le_refl _) hb) hsn hn hr)
    have HR := Lib.hid hr
    clear hg RS R hL hr
    go_enter Try.func5, Try.ntmps5
    go_wp2_with (first | (go_at_call 6; (with_reducible refine (PL.out _ (Lw.balloc (Below.refl _ _) _)).mono ?_); rintro e w1 ⟨rfl, hb1⟩; have BG1 := (hb1.block w.heap.size (by simp)).trans (Lw.blk_new w _ _); have c0 := Lw.blk_cell BG1 0; have c1 := Lw.blk_cell BG1 1; have c2 := Lw.blk_cell BG1 2; have c3 := Lw.blk_cell BG1 3; simp at c0 c1 c2 c3) | (go_at_call 9; (with_reducible refine (CK.out _).mono ?_); rintro e w2 ⟨rfl, hb2⟩))
    have hB1 : Below w.heap.size w w1 := Lw.bt (Lw.balloc (Below.refl _ _) _) hb1
    have hB2 := Lw.bt hB1 hb2
    have hz1 := hb1.size
    simp at hz1
    have hz2 := hb2.size
    have hg2 : w.heap.size < w2.heap.size := by omega
    have d1 := (hb2.cell (p := ⟨w.heap.size, 1, none⟩) (by show w.heap.size < _; omega)).trans c1
    go_loopw [9, 11, 35] (fun v9 _ i wr => ∃ k : Nat, i = .int .i64 (k : Int) ∧ k ≤ sn ∧ v9 = .int .i64 (if Lw.outR Q (ss.take k) = true then 2 else 0) ∧ Below w2.heap.size w2 wr) (fun _ _ i _ => sn - (intOf i).toNat)
    case atStart => exact ⟨0, rfl, by omega, rfl, Below.refl _ _⟩
    case round =>
      obtain ⟨k, rfl, k1, e9, hB⟩ := hrel
      by_cases hlt : k < sn
      · have hlt' : (k : Int) < (sn : Int) := by omega
        have hl : k < ss.length := by rw [LS.out]; exact hlt
        obtain ⟨ad, rfl, had, hc⟩ := (RSH.out.below (Nat.le_refl _) (Lw.bt hB2 hB)).at1 hlt (Lw.intsV_get hl)
        have gQ := (hB.cell (p := ⟨w.heap.size, 1, none⟩) hg2).trans d1
        have NX := Lib.hid (Lw.outR_take (Q := Q) hl)
        obtain ⟨x, hx⟩ : ∃ y, ss[k] = y := ⟨_, rfl⟩
        rw [hx] at hc NX
        clear hx
        cases hb : Lw.outR Q (ss.take k)
        · rw [hb] at e9 NX
          have e9' : u9 = .int .i64 0 := e9
          subst e9'
          rcases (by omega : x < 0 ∨ (¬ x < 0 ∧ Q ≤ x) ∨ (¬ x < 0 ∧ ¬ Q ≤ x)) with y1 | ⟨y1, y2⟩ | ⟨y1, y2⟩
          · have N2 : Hid (Lw.outR Q (ss.take (k + 1)) = true) := by show _ = _; rw [NX.out]; simp [y1]
            clear NX e9 hb
            go_wp2
            go_roundw
            case rel => exact ⟨k + 1, by go_num, by omega, by rw [N2.out]; rfl, hB⟩
            case measure => simp [intOf]; omega
          · have N2 : Hid (Lw.outR Q (ss.take (k + 1)) = true) := by show _ = _; rw [NX.out]; simp [y2]
            clear NX e9 hb
            go_wp2
            go_roundw
            case rel => exact ⟨k + 1, by go_num, by omega, by rw [N2.out]; rfl, hB⟩
            case measure => simp [intOf]; omega
          · have N2 : Hid (Lw.outR Q (ss.take (k + 1)) = false) := by show _ = _; rw [NX.out]; simp; omega
            clear NX e9 hb
            go_wp2
            go_roundw
            case rel => exact ⟨k + 1, by go_num, by omega, by rw [N2.out]; rfl, hB⟩
            case measure => simp [intOf]; omega
        · rw [hb] at e9 NX
          have e9' : u9 = .int .i64 2 := e9
          subst e9'
          have N2 : Hid (Lw.outR Q (ss.take (k + 1)) = true) := by show _ = _; rw [NX.out]; simp
          clear NX e9 hb
          go_wp2
          go_roundw
          case rel => exact ⟨k + 1, by go_num, by omega, by rw [N2.out]; rfl, hB⟩
          case measure => simp [intOf]; omega

      · have hlt' : ¬ (k : Int) < (sn : Int) := by omega
        have hk : ss.take k = ss := List.take_of_length_le (by rw [LS.out]; omega)
        rw [hk, HR.out] at e9
        have e9' : u9 = .int .i64 2 := e9
        subst e9'
        clear e9 hk
        go_wp2
        go_ret
        exact ⟨by simp, Lw.bt hB2 hB⟩
  · have hr2 : Lw.outR Q ss = false := by simpa using hr
    have hs : ∀ s ∈ ss, 0 ≤ s ∧ s < Q := fun s h => by
      have := List.any_eq_false.1 hr2 s h
      simp at this; omega
    have PL := Lib.hid (fun w' (hb : Below w.heap.size w w') => relay_Play P Q G H SA sn sc ss A n c L w' hg (RS.below (Nat.le_refl _) hb) hs hsn (R.below (Nat.le_refl _) hb) (fun x h => (hL x h).below (Nat.le_refl _) hb) hn)
    have RF := Lib.hid (fun w' (hb : Below w.heap.size w w') => ref_Relay P Q G H SA sn sc ss A n c L w' hg (RS.below (Nat.le_refl _) hb) hs hsn (R.below (Nat.le_refl _) hb) (fun x h => (hL x h).below (Nat.le_refl _) hb) hn)
    have HR := Lib.hid hr2
    have OL := Lw.rl_len (P := P) (Q := Q) (G := G) (ss := ss) (L := L) L.length (Nat.le_refl _)
    have OB := Lw.rl_body (P := P) (Q := Q) (G := G) (ss := ss) (L := L) L.length (Nat.le_refl _)
    rw [List.take_length] at OL OB
    rw [LL.out] at OL
    generalize (Lw.rlRun P Q G ss L).1 = out at *
    have HP := Lib.hid (fun A B n c d b1 b2 w T1 T2 hn hn2 => ref_Hops A B n c d b1 b2 out w T1 T2 hn hn2 OB)
    have OLH := Lib.hid OL
    clear hg RS R hL hr hr2 hs OL OB
    go_enter Try.func5, Try.ntmps5
    go_wp2_with fail
    refine (PL.out _ (Lw.balloc (Below.refl _ _) _)).mono ?_
    rintro e w1 ⟨A1, c1', rfl, T1, hb1⟩
    have BG1 := (hb1.block w.heap.size (by simp)).trans (Lw.blk_new w _ _)
    have c0 := Lw.blk_cell BG1 0; have c1 := Lw.blk_cell BG1 1; have c2 := Lw.blk_cell BG1 2; have c3 := Lw.blk_cell BG1 3
    simp at c0 c1 c2 c3
    go_wp2_with (go_at_call 9; (with_reducible refine (CK.out _).mono ?_); rintro e w2 ⟨rfl, hb2⟩)
    have hB1 : Below w.heap.size w w1 := Lw.bt (Lw.balloc (Below.refl _ _) _) hb1
    have hB2 := Lw.bt hB1 hb2
    have hz1 := hb1.size
    simp at hz1
    have hz2 := hb2.size
    have hg2 : w.heap.size < w2.heap.size := by omega
    have d0 := (hb2.cell (p := ⟨w.heap.size, 0, none⟩) (by show w.heap.size < _; omega)).trans c0
    have d1 := (hb2.cell (p := ⟨w.heap.size, 1, none⟩) (by show w.heap.size < _; omega)).trans c1
    have d2 := (hb2.cell (p := ⟨w.heap.size, 2, none⟩) (by show w.heap.size < _; omega)).trans c2
    have d3 := (hb2.cell (p := ⟨w.heap.size, 3, none⟩) (by show w.heap.size < _; omega)).trans c3
    have T2 := Lib.hid (T1.below (Nat.le_refl _) hb2)
    clear T1
    go_loopw [9, 11, 35] (fun v9 _ i wr => ∃ k : Nat, i = .int .i64 (k : Int) ∧ k ≤ sn ∧ v9 = .int .i64 (if Lw.outR Q (ss.take k) = true then 2 else 0) ∧ Below w2.heap.size w2 wr) (fun _ _ i _ => sn - (intOf i).toNat)
    case atStart => exact ⟨0, rfl, by omega, rfl, Below.refl _ _⟩
    case round =>
      obtain ⟨k, rfl, k1, e9, hB⟩ := hrel
      by_cases hlt : k < sn
      · have hlt' : (k : Int) < (sn : Int) := by omega
        have hl : k < ss.length := by rw [LS.out]; exact hlt
        obtain ⟨ad, rfl, had, hc⟩ := (RSH.out.below (Nat.le_refl _) (Lw.bt hB2 hB)).at1 hlt (Lw.intsV_get hl)
        have gQ := (hB.cell (p := ⟨w.heap.size, 1, none⟩) hg2).trans d1
        have NX := Lib.hid (Lw.outR_take (Q := Q) hl)
        obtain ⟨x, hx⟩ : ∃ y, ss[k] = y := ⟨_, rfl⟩
        rw [hx] at hc NX
        clear hx
        cases hb : Lw.outR Q (ss.take k)
        · rw [hb] at e9 NX
          have e9' : u9 = .int .i64 0 := e9
          subst e9'
          rcases (by omega : x < 0 ∨ (¬ x < 0 ∧ Q ≤ x) ∨ (¬ x < 0 ∧ ¬ Q ≤ x)) with y1 | ⟨y1, y2⟩ | ⟨y1, y2⟩
          · have N2 : Hid (Lw.outR Q (ss.take (k + 1)) = true) := by show _ = _; rw [NX.out]; simp [y1]
            clear NX e9 hb
            go_wp2
            go_roundw
            case rel => exact ⟨k + 1, by go_num, by omega, by rw [N2.out]; rfl, hB⟩
            case measure => simp [intOf]; omega
          · have N2 : Hid (Lw.outR Q (ss.take (k + 1)) = true) := by show _ = _; rw [NX.out]; simp [y2]
            clear NX e9 hb
            go_wp2
            go_roundw
            case rel => exact ⟨k + 1, by go_num, by omega, by rw [N2.out]; rfl, hB⟩
            case measure => simp [intOf]; omega
          · have N2 : Hid (Lw.outR Q (ss.take (k + 1)) = false) := by show _ = _; rw [NX.out]; simp; omega
            clear NX e9 hb
            go_wp2
            go_roundw
            case rel => exact ⟨k + 1, by go_num, by omega, by rw [N2.out]; rfl, hB⟩
            case measure => simp [intOf]; omega
        · rw [hb] at e9 NX
          have e9' : u9 = .int .i64 2 := e9
          subst e9'
          have N2 : Hid (Lw.outR Q (ss.take (k + 1)) = true) := by show _ = _; rw [NX.out]; simp
          clear NX e9 hb
          go_wp2
          go_roundw
          case rel => exact ⟨k + 1, by go_num, by omega, by rw [N2.out]; rfl, hB⟩
          case measure => simp [intOf]; omega

      · have hlt' : ¬ (k : Int) < (sn : Int) := by omega
        have hk : ss.take k = ss := List.take_of_length_le (by rw [LS.out]; omega)
        rw [hk, HR.out] at e9
        have e9' : u9 = .int .i64 0 := e9
        subst e9'
        clear e9 hk
        have g0 := (hB.cell (p := ⟨w.heap.size, 0, none⟩) hg2).trans d0
        have g1 := (hB.cell (p := ⟨w.heap.size, 1, none⟩) hg2).trans d1
        have g2 := (hB.cell (p := ⟨w.heap.size, 2, none⟩) hg2).trans d2
        have g3 := (hB.cell (p := ⟨w.heap.size, 3, none⟩) hg2).trans d3
        go_wp2_with fail
        refine (RF.out _ (Lw.bt hB2 hB)).mono ?_
        rintro e w4 ⟨A4, c4, rfl, T4, hb4⟩
        go_wp2_with fail
        refine (HP.out A1 A4 out.length c1' c4 _ _ w4 (T2.out.below (Nat.le_refl _) (Lw.bt hB hb4)) T4 rfl (by have := OLH.out; omega)).mono ?_
        rintro e w5 ⟨rfl, hb5⟩
        go_wp2_with fail
        go_ret
        exact ⟨by simp, Lw.bt (Lw.bt (Lw.bt hB2 hB) hb4) hb5⟩
theorem RelayPlays (P Q G H : Int) (SA : Option Addr) (sn sc : Nat) (zs : List Int) (A : Option Addr) (n c : Nat) (w : World) (wP : (Lit.int .i64 P).wf = true) (wQ : (Lit.int .i64 Q).wf = true) (wG : (Lit.int .i64 G).wf = true) (wH : (Lit.int .i64 H).wf = true)
    (hS : Lw.IsRow .i64 w SA sn sc zs) (h : Lw.IsSl w [Lw.IsI .i64, Lw.IsI .i64, Lw.IsI .i64, Lw.IsS w [Lw.IsI .u8], Lw.IsI .i64, Lw.IsI .i64, Lw.IsI .u8] A n c) :
    Calls Try.prog 5 #[.agg #[.int .i64 P, .int .i64 Q, .int .i64 G, .int .i64 H], .slice SA sn sc, .slice A n c] w fun e w' => e = .returned (.bool true) ∧ Below w.heap.size w w' := by
  obtain ⟨RS, r1, r2, r3, _⟩ := hS.rd
  have hmax : sn ≤ 9223372036854775807 := by unfold maxLen at r3; omega
  obtain ⟨L, l1, l2, l3⟩ := h.list (by simp)
  obtain ⟨T, t1, t2, t3⟩ := Lw.hp_list l2
  rw [t2] at l3
  have R : Lw.Rd w 7 A n (Lw.hpsV T) := l3
  by_cases hg : Lw.groupE P Q G H = 0
  · by_cases hz : 3 < sn ∨ 100 < n
    · exact relay_code P Q G H 0 1 SA sn sc _ A n c w RS hmax hg (.inr ⟨rfl, rfl, hz⟩) (fun w => play_large P Q G H SA sn sc A n c w hg hz)
    · exact relay_fits P Q G H SA sn sc _ A n c T w hg RS (by omega) R t3 (by omega)
  · exact relay_code P Q G H _ _ SA sn sc _ A n c w RS hmax rfl (.inl ⟨rfl, by simpa using hg⟩) (fun w => play_group P Q G H _ _ _ w rfl (by simpa using hg))
end Go.Proofs.Ytkjcpjbdckbjcaa.LW
