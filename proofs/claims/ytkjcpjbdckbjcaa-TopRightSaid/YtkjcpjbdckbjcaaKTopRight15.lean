/- The law TopRight: what is sent comes out as it was. -/
import Derived.Test.YtkjcpjbdckbjcaaKTopRight14
import Derived.Test.YtkjcpjbdckbjcaaKTopRight7
import Derived.Test.YtkjcpjbdckbjcaaKTopRight3
set_option linter.unusedVariables false
set_option linter.unusedVariables false
set_option linter.unusedSimpArgs false
namespace Go.Proofs.Ytkjcpjbdckbjcaa
open Go.RowKit
theorem may_ask (P Q G H E : Int) (SA : Option Addr) (sn sc : Nat) (ss : List Int) (A : Option Addr) (n c : Nat) (w : World) (RS : Lw.Rd w 1 SA sn (Lw.intsV .i64 ss)) (hm : sn ≤ maxLen) (hE : Lw.askE P Q G H ss [] = E) (hn : (E != 0) = true) :
    Calls Try.prog 7 #[.agg #[.int .i64 P, .int .i64 Q, .int .i64 G, .int .i64 H], .slice SA sn sc, .slice A n c] w fun e w' => e = .returned (.bool false) ∧ Below w.heap.size w w' := by
  have AX := Lib.hid (fun w' (hb : Below w.heap.size w w') => ref_GroupAsk' P Q G H E ss [] hE SA none sn 0 sc 0 w' (RS.below (Nat.le_refl _) hb) (Lw.Rd.nil _ _ _) hm (by unfold maxLen; omega))
  clear RS hE
  go_enter Try.func7, Try.ntmps7
  go_wp2_with (go_at_call 18; (with_reducible refine (AX.out _ (Lw.balloc (Below.refl _ _) _)).mono ?_); rintro e w1 ⟨rfl, hb1⟩)
  go_ret
  exact ⟨rfl, by (repeat (first | exact Below.refl _ _ | refine Lw.bt ?_ (by assumption) | refine Lw.balloc ?_ _ | refine Lw.bdrewN ?_ _ | refine Below.drew ?_ | refine Lw.bset ?_ (by first | (simp; done) | (simp; omega) | omega) _))⟩
theorem may_size (P Q G H : Int) (SA : Option Addr) (sn sc : Nat) (ss : List Int) (A : Option Addr) (n c : Nat) (w : World) (b : Bool) (RS : Lw.Rd w 1 SA sn (Lw.intsV .i64 ss)) (hm : sn ≤ maxLen) (hE : Lw.askE P Q G H ss [] = 0) (hb : (b = true ∧ sn ≤ 3 ∧ n ≤ 100) ∨ (b = false ∧ (3 < sn ∨ 100 < n))) :
    Calls Try.prog 7 #[.agg #[.int .i64 P, .int .i64 Q, .int .i64 G, .int .i64 H], .slice SA sn sc, .slice A n c] w fun e w' => e = .returned (.bool b) ∧ Below w.heap.size w w' := by
  have AX := Lib.hid (fun w' (hb : Below w.heap.size w w') => ref_GroupAsk' P Q G H 0 ss [] hE SA none sn 0 sc 0 w' (RS.below (Nat.le_refl _) hb) (Lw.Rd.nil _ _ _) hm (by unfold maxLen; omega))
  clear RS hE
  rcases hb with ⟨rfl, h1, h2⟩ | ⟨rfl, h⟩
  · have z1 : (sn : Int) ≤ 3 := by omega
    have z2 : (n : Int) ≤ 100 := by omega
    clear h1 h2
    go_enter Try.func7, Try.ntmps7
    go_wp2_with (go_at_call 18; (with_reducible refine (AX.out _ (Lw.balloc (Below.refl _ _) _)).mono ?_); rintro e w1 ⟨rfl, hb1⟩)
    go_ret
    exact ⟨by simp <;> omega, by (repeat (first | exact Below.refl _ _ | refine Lw.bt ?_ (by assumption) | refine Lw.balloc ?_ _ | refine Lw.bdrewN ?_ _ | refine Below.drew ?_ | refine Lw.bset ?_ (by first | (simp; done) | (simp; omega) | omega) _))⟩
  · rcases (by omega : 3 < sn ∨ (¬ 3 < sn ∧ 100 < n)) with h1 | ⟨h1, h2⟩
    · have z1 : ¬ (sn : Int) ≤ 3 := by omega
      clear h h1
      go_enter Try.func7, Try.ntmps7
      go_wp2_with (go_at_call 18; (with_reducible refine (AX.out _ (Lw.balloc (Below.refl _ _) _)).mono ?_); rintro e w1 ⟨rfl, hb1⟩)
      go_ret
      exact ⟨by simp <;> omega, by (repeat (first | exact Below.refl _ _ | refine Lw.bt ?_ (by assumption) | refine Lw.balloc ?_ _ | refine Lw.bdrewN ?_ _ | refine Below.drew ?_ | refine Lw.bset ?_ (by first | (simp; done) | (simp; omega) | omega) _))⟩
    · have z1 : (sn : Int) ≤ 3 := by omega
      have z2 : ¬ (n : Int) ≤ 100 := by omega
      clear h h1 h2
      go_enter Try.func7, Try.ntmps7
      go_wp2_with (go_at_call 18; (with_reducible refine (AX.out _ (Lw.balloc (Below.refl _ _) _)).mono ?_); rintro e w1 ⟨rfl, hb1⟩)
      go_ret
      exact ⟨by simp <;> omega, by (repeat (first | exact Below.refl _ _ | refine Lw.bt ?_ (by assumption) | refine Lw.balloc ?_ _ | refine Lw.bdrewN ?_ _ | refine Below.drew ?_ | refine Lw.bset ?_ (by first | (simp; done) | (simp; omega) | omega) _))⟩

end Go.Proofs.Ytkjcpjbdckbjcaa
namespace Go.Proofs.Ytkjcpjbdckbjcaa.LW
open Go.RowKit
theorem right_bad (P Q G H E : Int) (SA : Option Addr) (sn sc : Nat) (A : Option Addr) (n c : Nat) (w : World) (hn : (E != 0) = true)
    (PL : ∀ w' : World, Below w.heap.size w w' → Calls Try.prog 6 #[.agg #[.int .i64 P, .int .i64 Q, .int .i64 G, .int .i64 H], .slice SA sn sc, .slice A n c] w' fun e w'' => e = .returned (.tuple #[.slice none 0 0, .int .i64 E]) ∧ Below w'.heap.size w' w'')
    (MY : ∀ w' : World, Below w.heap.size w w' → Calls Try.prog 7 #[.agg #[.int .i64 P, .int .i64 Q, .int .i64 G, .int .i64 H], .slice SA sn sc, .slice A n c] w' fun e w'' => e = .returned (.bool false) ∧ Below w'.heap.size w' w'') :
    Calls Try.prog 3 #[.agg #[.int .i64 P, .int .i64 Q, .int .i64 G, .int .i64 H], .slice SA sn sc, .slice A n c] w fun e w' => e = .returned (.bool true) ∧ Below w.heap.size w w' := by
  have PL := Lib.hid PL
  have MY := Lib.hid MY
  go_enter Try.func3, Try.ntmps3
  go_wp2_with fail
  refine (PL.out _ (Lw.balloc (Below.refl _ _) _)).mono ?_
  rintro e w1 ⟨rfl, hb1⟩
  have hB1 : Below w.heap.size w w1 := Lw.bt (Lw.balloc (Below.refl _ _) _) hb1
  have BG1 := (hb1.block w.heap.size (by simp)).trans (Lw.blk_new w _ _)
  have c0 := Lw.blk_cell BG1 0; have c1 := Lw.blk_cell BG1 1; have c2 := Lw.blk_cell BG1 2; have c3 := Lw.blk_cell BG1 3
  simp at c0 c1 c2 c3
  go_wp2_with fail
  refine (MY.out _ hB1).mono ?_
  rintro e w2 ⟨rfl, hb2⟩
  go_wp2
  go_ret
  exact ⟨by simp [hn], Lw.bt hB1 hb2⟩

set_option maxHeartbeats 4000000 in
theorem right_fits (P Q G H : Int) (SA : Option Addr) (sn sc : Nat) (ss : List Int) (A : Option Addr) (n c : Nat) (L : List Lw.Hp) (w : World) (hg : Lw.groupE P Q G H = 0) (RS : Lw.Rd w 1 SA sn (Lw.intsV .i64 ss)) (hs : ∀ s ∈ ss, 0 ≤ s ∧ s < Q) (hsn : sn ≤ 3) (R : Lw.Rd w 7 A n (Lw.hpsV L)) (hL : ∀ x ∈ L, x.ok w) (hn : n ≤ 100)
    (MY : ∀ w' : World, Below w.heap.size w w' → Calls Try.prog 7 #[.agg #[.int .i64 P, .int .i64 Q, .int .i64 G, .int .i64 H], .slice SA sn sc, .slice A n c] w' fun e w'' => e = .returned (.bool true) ∧ Below w'.heap.size w' w'') :
    Calls Try.prog 3 #[.agg #[.int .i64 P, .int .i64 Q, .int .i64 G, .int .i64 H], .slice SA sn sc, .slice A n c] w fun e w' => e = .returned (.bool true) ∧ Below w.heap.size w w' := by
  have LS := Lib.hid (show ss.length = sn by have := RS.1; simpa [Lw.intsV] using this)
  have LL := Lib.hid (show L.length = n by have := R.1; rw [Lw.hpsV_length] at this; omega)
  have PL := Lib.hid (fun w' (hb : Below w.heap.size w w') => relay_Play P Q G H SA sn sc ss A n c L w' hg (RS.below (Nat.le_refl _) hb) hs hsn (R.below (Nat.le_refl _) hb) (fun x h => (hL x h).below (Nat.le_refl _) hb) hn)
  have MY := Lib.hid MY
  have OL := Lw.rl_len (P := P) (Q := Q) (G := G) (ss := ss) (L := L) L.length (Nat.le_refl _)
  rw [List.take_length, LL.out] at OL
  have OLH := Lib.hid OL
  have HL := Lib.hid hL
  replace R := Lib.hid R
  clear hg RS hL OL hs

  go_enter Try.func3, Try.ntmps3
  go_wp2_with fail
  refine (PL.out _ (Lw.balloc (Below.refl _ _) _)).mono ?_
  rintro e w1 ⟨A1, c1', rfl, T1, hb1⟩
  have hB1 : Below w.heap.size w w1 := Lw.bt (Lw.balloc (Below.refl _ _) _) hb1
  have BG1 := (hb1.block w.heap.size (by simp)).trans (Lw.blk_new w _ _)
  have c0 := Lw.blk_cell BG1 0; have c1 := Lw.blk_cell BG1 1; have c2 := Lw.blk_cell BG1 2; have c3 := Lw.blk_cell BG1 3
  simp at c0 c1 c2 c3
  go_wp2_with fail
  refine (MY.out _ hB1).mono ?_
  rintro e w2 ⟨rfl, hb2⟩
  have hB2 := Lw.bt hB1 hb2
  obtain ⟨T, E1, O1, R1⟩ := T1.below (Nat.le_refl _) hb2
  have TL := Lib.hid (show T.length = n by rw [← OLH.out, ← E1]; unfold Lw.toldOut; rw [List.length_map])
  have E1 := Lib.hid E1
  have O1 := Lib.hid O1
  have R1 := Lib.hid (Lw.Rd.of_own R1)
  rw [OLH.out] at R1
  have z0 : ((n : Int) != (n : Int)) = false := by simp
  have OX := OLH.out
  rw [OX]
  clear T1 c0 c1 c2 c3 BG1
  go_wp2

  go_loopw [9, 10, 12, 38] (fun v9 _ _ i wr => ∃ k : Nat, i = .int .i64 (k : Int) ∧ k ≤ n ∧ v9 = .int .i64 ((Lw.rlRun P Q G ss (L.take k)).2.keys.length : Int) ∧ Below w2.heap.size w2 wr) (fun _ _ _ i _ => n - (intOf i).toNat)
  case atStart => exact ⟨0, rfl, by omega, rfl, Below.refl _ _⟩
  case round =>
    obtain ⟨k, rfl, k1, e9, hB⟩ := hrel
    by_cases hlt : k < n
    · have hlt' : (k : Int) < (n : Int) := by omega
      have hl : k < L.length := by rw [LL.out]; exact hlt
      have RT := Lib.hid (Lw.rl_take (P := P) (Q := Q) (G := G) (ss := ss) hl)
      have RO := Lib.hid (rl_ok (P := P) (Q := Q) (G := G) (ss := ss) (L := L) k (by omega) (by omega)).1
      have RG := Lw.rl_get (P := P) (Q := Q) (G := G) (ss := ss) hl L.length (Nat.le_refl _) hl
      rw [List.take_length] at RG
      have hlo : k < (Lw.rlRun P Q G ss L).1.length := (List.getElem?_eq_some_iff.1 RG).1
      have hT : k < T.length := by have := TL.out; rw [← E1.out] at hlo; unfold Lw.toldOut at hlo; rwa [List.length_map] at hlo
      have eT : (T[k].1, T[k].2.1) = (Lw.rlStep P Q G ss (Lw.rlRun P Q G ss (L.take k)).2 L[k]).1 := by
        rw [← E1.out] at RG
        unfold Lw.toldOut at RG
        rw [List.getElem?_map, List.getElem?_eq_getElem hT] at RG
        injection RG
      have hBw := Lw.bt hB2 hB
      obtain ⟨ad, rfl, had, h0, h1, h2, h3, h4, h5, h6⟩ := (R.out.below (Nat.le_refl _) hBw).at7 hlt hl
      obtain ⟨a1, rfl, ha1, c1, d1⟩ := (R1.out.below (Nat.le_refl _) hB).at2 (show k < n from hlt) (Lw.toldV_get hT).1 (Lw.toldV_get hT).2
      have ow1 := Lw.ownsBelow (O1.out _ (List.getElem_mem hT)) (Nat.le_refl _) hB
      have HOK := Lib.hid ((HL.out _ (List.getElem_mem hl)).below (Nat.le_refl _) hBw)
      have KL := Lw.step_keys (P := P) (Q := Q) (G := G) (ss := ss) (s := (Lw.rlRun P Q G ss (L.take k)).2) (h := L[k])
      have NXT := Lib.hid (show (Lw.rlRun P Q G ss (L.take (k + 1))).2 = (Lw.rlStep P Q G ss (Lw.rlRun P Q G ss (L.take k)).2 L[k]).2 by rw [RT.out])
      obtain ⟨x, hx⟩ : ∃ y, L[k] = y := ⟨_, rfl⟩
      rw [hx] at eT h0 h1 h2 h3 h4 h5 h6 HOK KL NXT
      obtain ⟨st, hst⟩ : ∃ y, (Lw.rlRun P Q G ss (L.take k)).2 = y := ⟨_, rfl⟩
      rw [hst] at e9 eT RO KL NXT
      obtain ⟨⟨code, bd, vb⟩, ht⟩ : ∃ y, T[k] = y := ⟨_, rfl⟩
      rw [ht] at eT c1 d1 ow1
      simp only at eT c1 d1 ow1
      obtain ⟨Ab, cb, rfl, _⟩ := Lw.ownsForm ow1
      have OWB := Lib.hid ow1
      have LZ := Lib.hid (show x.zs.length = x.n by have := HOK.out.1.1; simpa [Lw.intsV] using this)
      have CD := Lib.hid (show (Lw.rlStep P Q G ss st x).1.1 = code by rw [← eT])
      have ES := Lib.hid eT.symm
      have KL := Lib.hid KL
      clear RT RG hx hst ht eT hlo ow1
      obtain ⟨kd, kk, ll, hA, hn', hc', zs, lk, at', tn⟩ := x
      simp only at h0 h1 h2 h3 h4 h5 h6
      have tb : 0 ≤ tn ∧ tn < 256 := ⟨HOK.out.2.2.1, HOK.out.2.2.2⟩
      have c1A : ∀ o, (wr.alloc o).cell? (a1.add (k * 2)) = some (.int .i64 code) := fun o => ((Lw.balloc (Below.refl _ wr) o).cell (p := a1.add (k * 2)) (by rw [Lw.add_block]; exact ha1)).trans c1
      have d1A : ∀ o, (wr.alloc o).cell? ⟨(a1.add (k * 2)).block, (a1.add (k * 2)).off + 1, none⟩ = some (.slice Ab bd.length cb) := fun o => ((Lw.balloc (Below.refl _ wr) o).cell (p := ⟨(a1.add (k * 2)).block, (a1.add (k * 2)).off + 1, none⟩) (by show (a1.add (k * 2)).block < _; rw [Lw.add_block]; exact ha1)).trans d1

      have hqn := RO.out.len
      obtain ⟨q, hq⟩ : ∃ y, st.keys.length = y := ⟨_, rfl⟩
      rw [hq] at e9 KL hqn
      subst e9
      have hq1000 : q ≤ 3 := by have := LS.out; omega
      simp only [CD.out] at KL
      by_cases hk1 : kd = 1
      · subst hk1
        by_cases hc0 : code = 0
        · have z1 : (code == 0) = true := by simpa using hc0
          have KQ : Hid ((Lw.rlStep P Q G ss st ⟨1, kk, ll, hA, hn', hc', zs, lk, at', tn⟩).2.keys.length = q + 1) := KL.trans (if_pos ⟨rfl, hc0⟩)
          clear hc0
          go_wp2
          go_roundw
          case rel => exact ⟨k + 1, by go_num, by omega, (by rw [NXT.out, KQ.out] <;> simp), Lw.balloc hB _⟩
          case measure => simp [intOf]; omega

        · have z1 : (code == 0) = false := by simpa using hc0
          have KQ : Hid ((Lw.rlStep P Q G ss st ⟨1, kk, ll, hA, hn', hc', zs, lk, at', tn⟩).2.keys.length = q) := KL.trans (if_neg (fun h => hc0 h.2))
          clear hc0
          go_wp2
          go_roundw
          case rel => exact ⟨k + 1, by go_num, by omega, (by rw [NXT.out, KQ.out] <;> simp), Lw.balloc hB _⟩
          case measure => simp [intOf]; omega

      · have z0' : (kd == 1) = false := by simpa using hk1
        have KQ : Hid ((Lw.rlStep P Q G ss st ⟨kd, kk, ll, hA, hn', hc', zs, lk, at', tn⟩).2.keys.length = q) := KL.trans (if_neg (fun h => hk1 h.1))
        by_cases hk : (kd = 2 ∨ kd = 3) ∧ tn = 0
        · obtain ⟨hk2, rfl⟩ := hk
          have SR := Lw.step_right (P := P) (Q := Q) (G := G) (ss := ss) (s := st) LZ.out HOK.out.2.1 hk2 rfl
          rw [hq] at SR
          have e2 := ES.out.symm.trans SR
          simp only at e2
          rcases (by omega : q = 0 ∨ (¬ q = 0 ∧ 14 < hn') ∨ (¬ q = 0 ∧ ¬ 14 < hn')) with y1 | ⟨y1, y2⟩ | ⟨y1, y2⟩
          · rw [if_pos y1] at e2
            simp only [Prod.mk.injEq] at e2
            obtain ⟨rfl, rfl⟩ := e2
            have z1 : ((q : Int) == 0) = true := by rw [y1]; rfl
            clear SR hq y1
            rcases hk2 with rfl | rfl
            · skip
              go_wp2
              refine Lw.at_world (fun W1 HW1 => ?_)
              have hbW : Below wr.heap.size wr W1 := by rw [HW1.out]; exact Lw.balloc (Below.refl _ wr) _
              have bH : W1.heap[wr.heap.size]? = some (.cells (HopC ⟨2, kk, ll, hA, hn', hc', zs, lk, at', 0⟩) 33 (0, 0)) := by rw [HW1.out]; exact Lw.blk_new _ _ _
              have b3 := Lw.blk_cell bH 3
              simp at b3
              have x1 := (hbW.cell (p := a1.add (k * 2)) (by rw [Lw.add_block]; exact ha1)).trans c1
              have x2 := (hbW.cell (p := ⟨(a1.add (k * 2)).block, (a1.add (k * 2)).off + 1, none⟩) (by show (a1.add (k * 2)).block < _; rw [Lw.add_block]; exact ha1)).trans d1
              have v1 : (a1.add (k * 2)).block < W1.heap.size := by rw [Lw.add_block]; exact Nat.lt_of_lt_of_le ha1 hbW.size
              have v2 : wr.heap.size < W1.heap.size := Lw.blk_lt bH
              have i0 : (0 : Int) ≤ (k : Int) := by omega
              have HBW := Lib.hid hbW
              clear hbW h0 h1 h2 h3 h4 h5 h6 c1 d1
              refine wp_region_held_drew (S := Lw.Sm W1) (by kernel_rfl) (Lw.sm_drew W1) (fun hHeld => ?_)

              (refine Lw.take1 (i := 0) (v := ?_) rfl (by kernel_rfl) (by kernel_rfl) (by kernel_rfl) (fun _ _ _ h => h) (Or.inl ⟨by rfl, ?_⟩) (by assumption) ?_; rotate_left 1; (focus (intro wS hSw; obtain ⟨hS1, hS2, hS3, hS4⟩ := hSw; go_simp <;> with_reducible rfl)); (try simp only [Act.put, List.setIfInBounds_toArray, List.set_cons_zero, List.set_cons_succ]))
              (refine Lw.take1 (i := 1) (v := ?_) rfl (by kernel_rfl) (by kernel_rfl) (by kernel_rfl) (fun _ _ _ h => h) (Or.inl ⟨by rfl, ?_⟩) (by assumption) ?_; rotate_left 1; (focus (intro wS hSw; obtain ⟨hS1, hS2, hS3, hS4⟩ := hSw; go_simp <;> with_reducible rfl)); (try simp only [Act.put, List.setIfInBounds_toArray, List.set_cons_zero, List.set_cons_succ]))
              (refine Lw.take1 (i := 2) (v := ?_) rfl (by kernel_rfl) (by kernel_rfl) (by kernel_rfl) (fun _ _ _ h => h) (Or.inl ⟨by rfl, ?_⟩) (by assumption) ?_; rotate_left 1; (focus (intro wS hSw; obtain ⟨hS1, hS2, hS3, hS4⟩ := hSw; go_simp <;> with_reducible rfl)); (try simp only [Act.put, List.setIfInBounds_toArray, List.set_cons_zero, List.set_cons_succ]))
              (refine Lw.take1 (i := 3) (v := ?_) rfl (by kernel_rfl) (by kernel_rfl) (by kernel_rfl) (fun _ _ _ h => h) (Or.inl ⟨by rfl, ?_⟩) (by assumption) ?_; rotate_left 1; (focus (intro wS hSw; obtain ⟨hS1, hS2, hS3, hS4⟩ := hSw; go_simp <;> with_reducible rfl)); (try simp only [Act.put, List.setIfInBounds_toArray, List.set_cons_zero, List.set_cons_succ]))
              (refine Lw.take1 (i := 4) (v := ?_) rfl (by kernel_rfl) (by kernel_rfl) (by kernel_rfl) (fun _ _ _ h => h) (Or.inl ⟨by rfl, ?_⟩) (by assumption) ?_; rotate_left 1; (focus (intro wS hSw; obtain ⟨hS1, hS2, hS3, hS4⟩ := hSw; go_simp <;> with_reducible rfl)); (try simp only [Act.put, List.setIfInBounds_toArray, List.set_cons_zero, List.set_cons_succ]))
              (refine Lw.take1 (i := 5) (v := ?_) rfl (by kernel_rfl) (by kernel_rfl) (by kernel_rfl) (fun _ _ _ h => h) (Or.inl ⟨by rfl, ?_⟩) (by assumption) ?_; rotate_left 1; (focus (intro wS hSw; obtain ⟨hS1, hS2, hS3, hS4⟩ := hSw; go_simp <;> with_reducible rfl)); (try simp only [Act.put, List.setIfInBounds_toArray, List.set_cons_zero, List.set_cons_succ]))
              (refine Lw.take1 (i := 6) (v := ?_) rfl (by kernel_rfl) (by kernel_rfl) (by kernel_rfl) (fun _ _ _ h => h) (Or.inl ⟨by rfl, ?_⟩) (by assumption) ?_; rotate_left 1; (focus (intro wS hSw; obtain ⟨hS1, hS2, hS3, hS4⟩ := hSw; go_simp <;> with_reducible rfl)); (try simp only [Act.put, List.setIfInBounds_toArray, List.set_cons_zero, List.set_cons_succ]))
              (refine Lw.take1 (i := 7) (v := ?_) rfl (by kernel_rfl) (by kernel_rfl) (by kernel_rfl) (fun _ _ _ h => h) (Or.inl ⟨by rfl, ?_⟩) (by assumption) ?_; rotate_left 1; (focus (intro wS hSw; obtain ⟨hS1, hS2, hS3, hS4⟩ := hSw; go_simp <;> with_reducible rfl)); (try simp only [Act.put, List.setIfInBounds_toArray, List.set_cons_zero, List.set_cons_succ]))
              (refine Lw.take1 (i := 8) (v := ?_) rfl (by kernel_rfl) (by kernel_rfl) (by kernel_rfl) (fun _ _ _ h => h) (Or.inl ⟨by rfl, ?_⟩) (by assumption) ?_; rotate_left 1; (focus (intro wS hSw; obtain ⟨hS1, hS2, hS3, hS4⟩ := hSw; go_simp <;> with_reducible rfl)); (try simp only [Act.put, List.setIfInBounds_toArray, List.set_cons_zero, List.set_cons_succ]))
              (refine Lw.take1 (i := 9) (v := ?_) rfl (by kernel_rfl) (by kernel_rfl) (by kernel_rfl) (fun _ _ _ h => h) (Or.inl ⟨by rfl, ?_⟩) (by assumption) ?_; rotate_left 1; (focus (intro wS hSw; obtain ⟨hS1, hS2, hS3, hS4⟩ := hSw; go_simp <;> with_reducible rfl)); (try simp only [Act.put, List.setIfInBounds_toArray, List.set_cons_zero, List.set_cons_succ]))
              (refine Lw.take1 (i := 10) (v := ?_) rfl (by kernel_rfl) (by kernel_rfl) (by kernel_rfl) (fun _ _ _ h => h) (Or.inl ⟨by rfl, ?_⟩) (by assumption) ?_; rotate_left 1; (focus (intro wS hSw; obtain ⟨hS1, hS2, hS3, hS4⟩ := hSw; go_simp <;> with_reducible rfl)); (try simp only [Act.put, List.setIfInBounds_toArray, List.set_cons_zero, List.set_cons_succ]))
              (refine Lw.take1 (i := 11) (v := undef) rfl (by kernel_rfl) (by kernel_rfl) (by kernel_rfl) (fun _ _ _ h => h) (Or.inr ⟨by rfl, rfl⟩) (by assumption) ?_; (try simp only [Act.put, List.setIfInBounds_toArray, List.set_cons_zero, List.set_cons_succ]))
              (refine Lw.take1 (i := 12) (v := undef) rfl (by kernel_rfl) (by kernel_rfl) (by kernel_rfl) (fun _ _ _ h => h) (Or.inr ⟨by rfl, rfl⟩) (by assumption) ?_; (try simp only [Act.put, List.setIfInBounds_toArray, List.set_cons_zero, List.set_cons_succ]))
              (refine Lw.take1 (i := 13) (v := undef) rfl (by kernel_rfl) (by kernel_rfl) (by kernel_rfl) (fun _ _ _ h => h) (Or.inr ⟨by rfl, rfl⟩) (by assumption) ?_; (try simp only [Act.put, List.setIfInBounds_toArray, List.set_cons_zero, List.set_cons_succ]))
              (refine Lw.take1 (i := 14) (v := undef) rfl (by kernel_rfl) (by kernel_rfl) (by kernel_rfl) (fun _ _ _ h => h) (Or.inr ⟨by rfl, rfl⟩) (by assumption) ?_; (try simp only [Act.put, List.setIfInBounds_toArray, List.set_cons_zero, List.set_cons_succ]))
              (refine Lw.take1 (i := 15) (v := undef) rfl (by kernel_rfl) (by kernel_rfl) (by kernel_rfl) (fun _ _ _ h => h) (Or.inr ⟨by rfl, rfl⟩) (by assumption) ?_; (try simp only [Act.put, List.setIfInBounds_toArray, List.set_cons_zero, List.set_cons_succ]))
              (refine Lw.take1 (i := 16) (v := undef) rfl (by kernel_rfl) (by kernel_rfl) (by kernel_rfl) (fun _ _ _ h => h) (Or.inr ⟨by rfl, rfl⟩) (by assumption) ?_; (try simp only [Act.put, List.setIfInBounds_toArray, List.set_cons_zero, List.set_cons_succ]))
              (refine Lw.take1 (i := 17) (v := undef) rfl (by kernel_rfl) (by kernel_rfl) (by kernel_rfl) (fun _ _ _ h => h) (Or.inr ⟨by rfl, rfl⟩) (by assumption) ?_; (try simp only [Act.put, List.setIfInBounds_toArray, List.set_cons_zero, List.set_cons_succ]))
              (refine Lw.take1 (i := 18) (v := undef) rfl (by kernel_rfl) (by kernel_rfl) (by kernel_rfl) (fun _ _ _ h => h) (Or.inr ⟨by rfl, rfl⟩) (by assumption) ?_; (try simp only [Act.put, List.setIfInBounds_toArray, List.set_cons_zero, List.set_cons_succ]))
              (refine Lw.take1 (i := 19) (v := undef) rfl (by kernel_rfl) (by kernel_rfl) (by kernel_rfl) (fun _ _ _ h => h) (Or.inr ⟨by rfl, rfl⟩) (by assumption) ?_; (try simp only [Act.put, List.setIfInBounds_toArray, List.set_cons_zero, List.set_cons_succ]))
              (refine Lw.take1 (i := 20) (v := ?_) rfl (by kernel_rfl) (by kernel_rfl) (by kernel_rfl) (fun _ _ _ h => h) (Or.inl ⟨by rfl, ?_⟩) (by assumption) ?_; rotate_left 1; (focus (intro wS hSw; obtain ⟨hS1, hS2, hS3, hS4⟩ := hSw; go_simp <;> with_reducible rfl)); (try simp only [Act.put, List.setIfInBounds_toArray, List.set_cons_zero, List.set_cons_succ]))
              (refine Lw.take1 (i := 21) (v := ?_) rfl (by kernel_rfl) (by kernel_rfl) (by kernel_rfl) (fun _ _ _ h => h) (Or.inl ⟨by rfl, ?_⟩) (by assumption) ?_; rotate_left 1; (focus (intro wS hSw; obtain ⟨hS1, hS2, hS3, hS4⟩ := hSw; go_simp <;> with_reducible rfl)); (try simp only [Act.put, List.setIfInBounds_toArray, List.set_cons_zero, List.set_cons_succ]))
              refine wpAnyH_done (by kernel_rfl) ?_ _
              clear hHeld
              go_wp2
              go_roundw
              case rel => exact ⟨k + 1, by go_num, by omega, by rw [NXT.out, KQ.out], Lw.bt hB (Below.drew HBW.out)⟩
              case measure => simp [intOf]; omega

            · skip
              go_wp2
              refine Lw.at_world (fun W1 HW1 => ?_)
              have hbW : Below wr.heap.size wr W1 := by rw [HW1.out]; exact Lw.balloc (Below.refl _ wr) _
              have bH : W1.heap[wr.heap.size]? = some (.cells (HopC ⟨3, kk, ll, hA, hn', hc', zs, lk, at', 0⟩) 33 (0, 0)) := by rw [HW1.out]; exact Lw.blk_new _ _ _
              have b3 := Lw.blk_cell bH 3
              simp at b3
              have x1 := (hbW.cell (p := a1.add (k * 2)) (by rw [Lw.add_block]; exact ha1)).trans c1
              have x2 := (hbW.cell (p := ⟨(a1.add (k * 2)).block, (a1.add (k * 2)).off + 1, none⟩) (by show (a1.add (k * 2)).block < _; rw [Lw.add_block]; exact ha1)).trans d1
              have v1 : (a1.add (k * 2)).block < W1.heap.size := by rw [Lw.add_block]; exact Nat.lt_of_lt_of_le ha1 hbW.size
              have v2 : wr.heap.size < W1.heap.size := Lw.blk_lt bH
              have i0 : (0 : Int) ≤ (k : Int) := by omega
              have HBW := Lib.hid hbW
              clear hbW h0 h1 h2 h3 h4 h5 h6 c1 d1
              refine wp_region_held_drew (S := Lw.Sm W1) (by kernel_rfl) (Lw.sm_drew W1) (fun hHeld => ?_)

              (refine Lw.take1 (i := 0) (v := ?_) rfl (by kernel_rfl) (by kernel_rfl) (by kernel_rfl) (fun _ _ _ h => h) (Or.inl ⟨by rfl, ?_⟩) (by assumption) ?_; rotate_left 1; (focus (intro wS hSw; obtain ⟨hS1, hS2, hS3, hS4⟩ := hSw; go_simp <;> with_reducible rfl)); (try simp only [Act.put, List.setIfInBounds_toArray, List.set_cons_zero, List.set_cons_succ]))
              (refine Lw.take1 (i := 1) (v := ?_) rfl (by kernel_rfl) (by kernel_rfl) (by kernel_rfl) (fun _ _ _ h => h) (Or.inl ⟨by rfl, ?_⟩) (by assumption) ?_; rotate_left 1; (focus (intro wS hSw; obtain ⟨hS1, hS2, hS3, hS4⟩ := hSw; go_simp <;> with_reducible rfl)); (try simp only [Act.put, List.setIfInBounds_toArray, List.set_cons_zero, List.set_cons_succ]))
              (refine Lw.take1 (i := 2) (v := ?_) rfl (by kernel_rfl) (by kernel_rfl) (by kernel_rfl) (fun _ _ _ h => h) (Or.inl ⟨by rfl, ?_⟩) (by assumption) ?_; rotate_left 1; (focus (intro wS hSw; obtain ⟨hS1, hS2, hS3, hS4⟩ := hSw; go_simp <;> with_reducible rfl)); (try simp only [Act.put, List.setIfInBounds_toArray, List.set_cons_zero, List.set_cons_succ]))
              (refine Lw.take1 (i := 3) (v := ?_) rfl (by kernel_rfl) (by kernel_rfl) (by kernel_rfl) (fun _ _ _ h => h) (Or.inl ⟨by rfl, ?_⟩) (by assumption) ?_; rotate_left 1; (focus (intro wS hSw; obtain ⟨hS1, hS2, hS3, hS4⟩ := hSw; go_simp <;> with_reducible rfl)); (try simp only [Act.put, List.setIfInBounds_toArray, List.set_cons_zero, List.set_cons_succ]))
              (refine Lw.take1 (i := 4) (v := ?_) rfl (by kernel_rfl) (by kernel_rfl) (by kernel_rfl) (fun _ _ _ h => h) (Or.inl ⟨by rfl, ?_⟩) (by assumption) ?_; rotate_left 1; (focus (intro wS hSw; obtain ⟨hS1, hS2, hS3, hS4⟩ := hSw; go_simp <;> with_reducible rfl)); (try simp only [Act.put, List.setIfInBounds_toArray, List.set_cons_zero, List.set_cons_succ]))
              (refine Lw.take1 (i := 5) (v := ?_) rfl (by kernel_rfl) (by kernel_rfl) (by kernel_rfl) (fun _ _ _ h => h) (Or.inl ⟨by rfl, ?_⟩) (by assumption) ?_; rotate_left 1; (focus (intro wS hSw; obtain ⟨hS1, hS2, hS3, hS4⟩ := hSw; go_simp <;> with_reducible rfl)); (try simp only [Act.put, List.setIfInBounds_toArray, List.set_cons_zero, List.set_cons_succ]))
              (refine Lw.take1 (i := 6) (v := ?_) rfl (by kernel_rfl) (by kernel_rfl) (by kernel_rfl) (fun _ _ _ h => h) (Or.inl ⟨by rfl, ?_⟩) (by assumption) ?_; rotate_left 1; (focus (intro wS hSw; obtain ⟨hS1, hS2, hS3, hS4⟩ := hSw; go_simp <;> with_reducible rfl)); (try simp only [Act.put, List.setIfInBounds_toArray, List.set_cons_zero, List.set_cons_succ]))
              (refine Lw.take1 (i := 7) (v := ?_) rfl (by kernel_rfl) (by kernel_rfl) (by kernel_rfl) (fun _ _ _ h => h) (Or.inl ⟨by rfl, ?_⟩) (by assumption) ?_; rotate_left 1; (focus (intro wS hSw; obtain ⟨hS1, hS2, hS3, hS4⟩ := hSw; go_simp <;> with_reducible rfl)); (try simp only [Act.put, List.setIfInBounds_toArray, List.set_cons_zero, List.set_cons_succ]))
              (refine Lw.take1 (i := 8) (v := ?_) rfl (by kernel_rfl) (by kernel_rfl) (by kernel_rfl) (fun _ _ _ h => h) (Or.inl ⟨by rfl, ?_⟩) (by assumption) ?_; rotate_left 1; (focus (intro wS hSw; obtain ⟨hS1, hS2, hS3, hS4⟩ := hSw; go_simp <;> with_reducible rfl)); (try simp only [Act.put, List.setIfInBounds_toArray, List.set_cons_zero, List.set_cons_succ]))
              (refine Lw.take1 (i := 9) (v := ?_) rfl (by kernel_rfl) (by kernel_rfl) (by kernel_rfl) (fun _ _ _ h => h) (Or.inl ⟨by rfl, ?_⟩) (by assumption) ?_; rotate_left 1; (focus (intro wS hSw; obtain ⟨hS1, hS2, hS3, hS4⟩ := hSw; go_simp <;> with_reducible rfl)); (try simp only [Act.put, List.setIfInBounds_toArray, List.set_cons_zero, List.set_cons_succ]))
              (refine Lw.take1 (i := 10) (v := ?_) rfl (by kernel_rfl) (by kernel_rfl) (by kernel_rfl) (fun _ _ _ h => h) (Or.inl ⟨by rfl, ?_⟩) (by assumption) ?_; rotate_left 1; (focus (intro wS hSw; obtain ⟨hS1, hS2, hS3, hS4⟩ := hSw; go_simp <;> with_reducible rfl)); (try simp only [Act.put, List.setIfInBounds_toArray, List.set_cons_zero, List.set_cons_succ]))
              (refine Lw.take1 (i := 11) (v := undef) rfl (by kernel_rfl) (by kernel_rfl) (by kernel_rfl) (fun _ _ _ h => h) (Or.inr ⟨by rfl, rfl⟩) (by assumption) ?_; (try simp only [Act.put, List.setIfInBounds_toArray, List.set_cons_zero, List.set_cons_succ]))
              (refine Lw.take1 (i := 12) (v := undef) rfl (by kernel_rfl) (by kernel_rfl) (by kernel_rfl) (fun _ _ _ h => h) (Or.inr ⟨by rfl, rfl⟩) (by assumption) ?_; (try simp only [Act.put, List.setIfInBounds_toArray, List.set_cons_zero, List.set_cons_succ]))
              (refine Lw.take1 (i := 13) (v := undef) rfl (by kernel_rfl) (by kernel_rfl) (by kernel_rfl) (fun _ _ _ h => h) (Or.inr ⟨by rfl, rfl⟩) (by assumption) ?_; (try simp only [Act.put, List.setIfInBounds_toArray, List.set_cons_zero, List.set_cons_succ]))
              (refine Lw.take1 (i := 14) (v := undef) rfl (by kernel_rfl) (by kernel_rfl) (by kernel_rfl) (fun _ _ _ h => h) (Or.inr ⟨by rfl, rfl⟩) (by assumption) ?_; (try simp only [Act.put, List.setIfInBounds_toArray, List.set_cons_zero, List.set_cons_succ]))
              (refine Lw.take1 (i := 15) (v := undef) rfl (by kernel_rfl) (by kernel_rfl) (by kernel_rfl) (fun _ _ _ h => h) (Or.inr ⟨by rfl, rfl⟩) (by assumption) ?_; (try simp only [Act.put, List.setIfInBounds_toArray, List.set_cons_zero, List.set_cons_succ]))
              (refine Lw.take1 (i := 16) (v := undef) rfl (by kernel_rfl) (by kernel_rfl) (by kernel_rfl) (fun _ _ _ h => h) (Or.inr ⟨by rfl, rfl⟩) (by assumption) ?_; (try simp only [Act.put, List.setIfInBounds_toArray, List.set_cons_zero, List.set_cons_succ]))
              (refine Lw.take1 (i := 17) (v := undef) rfl (by kernel_rfl) (by kernel_rfl) (by kernel_rfl) (fun _ _ _ h => h) (Or.inr ⟨by rfl, rfl⟩) (by assumption) ?_; (try simp only [Act.put, List.setIfInBounds_toArray, List.set_cons_zero, List.set_cons_succ]))
              (refine Lw.take1 (i := 18) (v := undef) rfl (by kernel_rfl) (by kernel_rfl) (by kernel_rfl) (fun _ _ _ h => h) (Or.inr ⟨by rfl, rfl⟩) (by assumption) ?_; (try simp only [Act.put, List.setIfInBounds_toArray, List.set_cons_zero, List.set_cons_succ]))
              (refine Lw.take1 (i := 19) (v := undef) rfl (by kernel_rfl) (by kernel_rfl) (by kernel_rfl) (fun _ _ _ h => h) (Or.inr ⟨by rfl, rfl⟩) (by assumption) ?_; (try simp only [Act.put, List.setIfInBounds_toArray, List.set_cons_zero, List.set_cons_succ]))
              (refine Lw.take1 (i := 20) (v := ?_) rfl (by kernel_rfl) (by kernel_rfl) (by kernel_rfl) (fun _ _ _ h => h) (Or.inl ⟨by rfl, ?_⟩) (by assumption) ?_; rotate_left 1; (focus (intro wS hSw; obtain ⟨hS1, hS2, hS3, hS4⟩ := hSw; go_simp <;> with_reducible rfl)); (try simp only [Act.put, List.setIfInBounds_toArray, List.set_cons_zero, List.set_cons_succ]))
              (refine Lw.take1 (i := 21) (v := ?_) rfl (by kernel_rfl) (by kernel_rfl) (by kernel_rfl) (fun _ _ _ h => h) (Or.inl ⟨by rfl, ?_⟩) (by assumption) ?_; rotate_left 1; (focus (intro wS hSw; obtain ⟨hS1, hS2, hS3, hS4⟩ := hSw; go_simp <;> with_reducible rfl)); (try simp only [Act.put, List.setIfInBounds_toArray, List.set_cons_zero, List.set_cons_succ]))
              refine wpAnyH_done (by kernel_rfl) ?_ _
              clear hHeld
              go_wp2
              go_roundw
              case rel => exact ⟨k + 1, by go_num, by omega, by rw [NXT.out, KQ.out], Lw.bt hB (Below.drew HBW.out)⟩
              case measure => simp [intOf]; omega

          · rw [if_neg y1, if_pos y2] at e2
            simp only [Prod.mk.injEq] at e2
            obtain ⟨rfl, rfl⟩ := e2
            have z1 : ((q : Int) == 0) = false := by rw [beq_eq_false_iff_ne]; omega
            have z3 : (14 : Int) < (hn' : Int) := by omega
            clear SR hq y1 y2
            rcases hk2 with rfl | rfl
            · skip
              go_wp2
              refine Lw.at_world (fun W1 HW1 => ?_)
              have hbW : Below wr.heap.size wr W1 := by rw [HW1.out]; exact Lw.balloc (Below.refl _ wr) _
              have bH : W1.heap[wr.heap.size]? = some (.cells (HopC ⟨2, kk, ll, hA, hn', hc', zs, lk, at', 0⟩) 33 (0, 0)) := by rw [HW1.out]; exact Lw.blk_new _ _ _
              have b3 := Lw.blk_cell bH 3
              simp at b3
              have x1 := (hbW.cell (p := a1.add (k * 2)) (by rw [Lw.add_block]; exact ha1)).trans c1
              have x2 := (hbW.cell (p := ⟨(a1.add (k * 2)).block, (a1.add (k * 2)).off + 1, none⟩) (by show (a1.add (k * 2)).block < _; rw [Lw.add_block]; exact ha1)).trans d1
              have v1 : (a1.add (k * 2)).block < W1.heap.size := by rw [Lw.add_block]; exact Nat.lt_of_lt_of_le ha1 hbW.size
              have v2 : wr.heap.size < W1.heap.size := Lw.blk_lt bH
              have i0 : (0 : Int) ≤ (k : Int) := by omega
              have HBW := Lib.hid hbW
              clear hbW h0 h1 h2 h3 h4 h5 h6 c1 d1
              refine wp_region_held_drew (S := Lw.Sm W1) (by kernel_rfl) (Lw.sm_drew W1) (fun hHeld => ?_)

              (refine Lw.take1 (i := 0) (v := ?_) rfl (by kernel_rfl) (by kernel_rfl) (by kernel_rfl) (fun _ _ _ h => h) (Or.inl ⟨by rfl, ?_⟩) (by assumption) ?_; rotate_left 1; (focus (intro wS hSw; obtain ⟨hS1, hS2, hS3, hS4⟩ := hSw; go_simp <;> with_reducible rfl)); (try simp only [Act.put, List.setIfInBounds_toArray, List.set_cons_zero, List.set_cons_succ]))
              (refine Lw.take1 (i := 1) (v := ?_) rfl (by kernel_rfl) (by kernel_rfl) (by kernel_rfl) (fun _ _ _ h => h) (Or.inl ⟨by rfl, ?_⟩) (by assumption) ?_; rotate_left 1; (focus (intro wS hSw; obtain ⟨hS1, hS2, hS3, hS4⟩ := hSw; go_simp <;> with_reducible rfl)); (try simp only [Act.put, List.setIfInBounds_toArray, List.set_cons_zero, List.set_cons_succ]))
              (refine Lw.take1 (i := 2) (v := ?_) rfl (by kernel_rfl) (by kernel_rfl) (by kernel_rfl) (fun _ _ _ h => h) (Or.inl ⟨by rfl, ?_⟩) (by assumption) ?_; rotate_left 1; (focus (intro wS hSw; obtain ⟨hS1, hS2, hS3, hS4⟩ := hSw; go_simp <;> with_reducible rfl)); (try simp only [Act.put, List.setIfInBounds_toArray, List.set_cons_zero, List.set_cons_succ]))
              (refine Lw.take1 (i := 3) (v := ?_) rfl (by kernel_rfl) (by kernel_rfl) (by kernel_rfl) (fun _ _ _ h => h) (Or.inl ⟨by rfl, ?_⟩) (by assumption) ?_; rotate_left 1; (focus (intro wS hSw; obtain ⟨hS1, hS2, hS3, hS4⟩ := hSw; go_simp <;> with_reducible rfl)); (try simp only [Act.put, List.setIfInBounds_toArray, List.set_cons_zero, List.set_cons_succ]))
              (refine Lw.take1 (i := 4) (v := ?_) rfl (by kernel_rfl) (by kernel_rfl) (by kernel_rfl) (fun _ _ _ h => h) (Or.inl ⟨by rfl, ?_⟩) (by assumption) ?_; rotate_left 1; (focus (intro wS hSw; obtain ⟨hS1, hS2, hS3, hS4⟩ := hSw; go_simp <;> with_reducible rfl)); (try simp only [Act.put, List.setIfInBounds_toArray, List.set_cons_zero, List.set_cons_succ]))
              (refine Lw.take1 (i := 5) (v := ?_) rfl (by kernel_rfl) (by kernel_rfl) (by kernel_rfl) (fun _ _ _ h => h) (Or.inl ⟨by rfl, ?_⟩) (by assumption) ?_; rotate_left 1; (focus (intro wS hSw; obtain ⟨hS1, hS2, hS3, hS4⟩ := hSw; go_simp <;> with_reducible rfl)); (try simp only [Act.put, List.setIfInBounds_toArray, List.set_cons_zero, List.set_cons_succ]))
              (refine Lw.take1 (i := 6) (v := ?_) rfl (by kernel_rfl) (by kernel_rfl) (by kernel_rfl) (fun _ _ _ h => h) (Or.inl ⟨by rfl, ?_⟩) (by assumption) ?_; rotate_left 1; (focus (intro wS hSw; obtain ⟨hS1, hS2, hS3, hS4⟩ := hSw; go_simp <;> with_reducible rfl)); (try simp only [Act.put, List.setIfInBounds_toArray, List.set_cons_zero, List.set_cons_succ]))
              (refine Lw.take1 (i := 7) (v := ?_) rfl (by kernel_rfl) (by kernel_rfl) (by kernel_rfl) (fun _ _ _ h => h) (Or.inl ⟨by rfl, ?_⟩) (by assumption) ?_; rotate_left 1; (focus (intro wS hSw; obtain ⟨hS1, hS2, hS3, hS4⟩ := hSw; go_simp <;> with_reducible rfl)); (try simp only [Act.put, List.setIfInBounds_toArray, List.set_cons_zero, List.set_cons_succ]))
              (refine Lw.take1 (i := 8) (v := ?_) rfl (by kernel_rfl) (by kernel_rfl) (by kernel_rfl) (fun _ _ _ h => h) (Or.inl ⟨by rfl, ?_⟩) (by assumption) ?_; rotate_left 1; (focus (intro wS hSw; obtain ⟨hS1, hS2, hS3, hS4⟩ := hSw; go_simp <;> with_reducible rfl)); (try simp only [Act.put, List.setIfInBounds_toArray, List.set_cons_zero, List.set_cons_succ]))
              (refine Lw.take1 (i := 9) (v := ?_) rfl (by kernel_rfl) (by kernel_rfl) (by kernel_rfl) (fun _ _ _ h => h) (Or.inl ⟨by rfl, ?_⟩) (by assumption) ?_; rotate_left 1; (focus (intro wS hSw; obtain ⟨hS1, hS2, hS3, hS4⟩ := hSw; go_simp <;> with_reducible rfl)); (try simp only [Act.put, List.setIfInBounds_toArray, List.set_cons_zero, List.set_cons_succ]))
              (refine Lw.take1 (i := 10) (v := ?_) rfl (by kernel_rfl) (by kernel_rfl) (by kernel_rfl) (fun _ _ _ h => h) (Or.inl ⟨by rfl, ?_⟩) (by assumption) ?_; rotate_left 1; (focus (intro wS hSw; obtain ⟨hS1, hS2, hS3, hS4⟩ := hSw; go_simp <;> with_reducible rfl)); (try simp only [Act.put, List.setIfInBounds_toArray, List.set_cons_zero, List.set_cons_succ]))
              (refine Lw.take1 (i := 11) (v := undef) rfl (by kernel_rfl) (by kernel_rfl) (by kernel_rfl) (fun _ _ _ h => h) (Or.inr ⟨by rfl, rfl⟩) (by assumption) ?_; (try simp only [Act.put, List.setIfInBounds_toArray, List.set_cons_zero, List.set_cons_succ]))
              (refine Lw.take1 (i := 12) (v := undef) rfl (by kernel_rfl) (by kernel_rfl) (by kernel_rfl) (fun _ _ _ h => h) (Or.inr ⟨by rfl, rfl⟩) (by assumption) ?_; (try simp only [Act.put, List.setIfInBounds_toArray, List.set_cons_zero, List.set_cons_succ]))
              (refine Lw.take1 (i := 13) (v := undef) rfl (by kernel_rfl) (by kernel_rfl) (by kernel_rfl) (fun _ _ _ h => h) (Or.inr ⟨by rfl, rfl⟩) (by assumption) ?_; (try simp only [Act.put, List.setIfInBounds_toArray, List.set_cons_zero, List.set_cons_succ]))
              (refine Lw.take1 (i := 14) (v := undef) rfl (by kernel_rfl) (by kernel_rfl) (by kernel_rfl) (fun _ _ _ h => h) (Or.inr ⟨by rfl, rfl⟩) (by assumption) ?_; (try simp only [Act.put, List.setIfInBounds_toArray, List.set_cons_zero, List.set_cons_succ]))
              (refine Lw.take1 (i := 15) (v := undef) rfl (by kernel_rfl) (by kernel_rfl) (by kernel_rfl) (fun _ _ _ h => h) (Or.inr ⟨by rfl, rfl⟩) (by assumption) ?_; (try simp only [Act.put, List.setIfInBounds_toArray, List.set_cons_zero, List.set_cons_succ]))
              (refine Lw.take1 (i := 16) (v := undef) rfl (by kernel_rfl) (by kernel_rfl) (by kernel_rfl) (fun _ _ _ h => h) (Or.inr ⟨by rfl, rfl⟩) (by assumption) ?_; (try simp only [Act.put, List.setIfInBounds_toArray, List.set_cons_zero, List.set_cons_succ]))
              (refine Lw.take1 (i := 17) (v := undef) rfl (by kernel_rfl) (by kernel_rfl) (by kernel_rfl) (fun _ _ _ h => h) (Or.inr ⟨by rfl, rfl⟩) (by assumption) ?_; (try simp only [Act.put, List.setIfInBounds_toArray, List.set_cons_zero, List.set_cons_succ]))
              (refine Lw.take1 (i := 18) (v := undef) rfl (by kernel_rfl) (by kernel_rfl) (by kernel_rfl) (fun _ _ _ h => h) (Or.inr ⟨by rfl, rfl⟩) (by assumption) ?_; (try simp only [Act.put, List.setIfInBounds_toArray, List.set_cons_zero, List.set_cons_succ]))
              (refine Lw.take1 (i := 19) (v := undef) rfl (by kernel_rfl) (by kernel_rfl) (by kernel_rfl) (fun _ _ _ h => h) (Or.inr ⟨by rfl, rfl⟩) (by assumption) ?_; (try simp only [Act.put, List.setIfInBounds_toArray, List.set_cons_zero, List.set_cons_succ]))
              (refine Lw.take1 (i := 20) (v := ?_) rfl (by kernel_rfl) (by kernel_rfl) (by kernel_rfl) (fun _ _ _ h => h) (Or.inl ⟨by rfl, ?_⟩) (by assumption) ?_; rotate_left 1; (focus (intro wS hSw; obtain ⟨hS1, hS2, hS3, hS4⟩ := hSw; go_simp <;> with_reducible rfl)); (try simp only [Act.put, List.setIfInBounds_toArray, List.set_cons_zero, List.set_cons_succ]))
              (refine Lw.take1 (i := 21) (v := ?_) rfl (by kernel_rfl) (by kernel_rfl) (by kernel_rfl) (fun _ _ _ h => h) (Or.inl ⟨by rfl, ?_⟩) (by assumption) ?_; rotate_left 1; (focus (intro wS hSw; obtain ⟨hS1, hS2, hS3, hS4⟩ := hSw; go_simp <;> with_reducible rfl)); (try simp only [Act.put, List.setIfInBounds_toArray, List.set_cons_zero, List.set_cons_succ]))
              refine wpAnyH_done (by kernel_rfl) ?_ _
              clear hHeld
              go_wp2
              go_roundw
              case rel => exact ⟨k + 1, by go_num, by omega, by rw [NXT.out, KQ.out], Lw.bt hB (Below.drew HBW.out)⟩
              case measure => simp [intOf]; omega

            · skip
              go_wp2
              refine Lw.at_world (fun W1 HW1 => ?_)
              have hbW : Below wr.heap.size wr W1 := by rw [HW1.out]; exact Lw.balloc (Below.refl _ wr) _
              have bH : W1.heap[wr.heap.size]? = some (.cells (HopC ⟨3, kk, ll, hA, hn', hc', zs, lk, at', 0⟩) 33 (0, 0)) := by rw [HW1.out]; exact Lw.blk_new _ _ _
              have b3 := Lw.blk_cell bH 3
              simp at b3
              have x1 := (hbW.cell (p := a1.add (k * 2)) (by rw [Lw.add_block]; exact ha1)).trans c1
              have x2 := (hbW.cell (p := ⟨(a1.add (k * 2)).block, (a1.add (k * 2)).off + 1, none⟩) (by show (a1.add (k * 2)).block < _; rw [Lw.add_block]; exact ha1)).trans d1
              have v1 : (a1.add (k * 2)).block < W1.heap.size := by rw [Lw.add_block]; exact Nat.lt_of_lt_of_le ha1 hbW.size
              have v2 : wr.heap.size < W1.heap.size := Lw.blk_lt bH
              have i0 : (0 : Int) ≤ (k : Int) := by omega
              have HBW := Lib.hid hbW
              clear hbW h0 h1 h2 h3 h4 h5 h6 c1 d1
              refine wp_region_held_drew (S := Lw.Sm W1) (by kernel_rfl) (Lw.sm_drew W1) (fun hHeld => ?_)

              (refine Lw.take1 (i := 0) (v := ?_) rfl (by kernel_rfl) (by kernel_rfl) (by kernel_rfl) (fun _ _ _ h => h) (Or.inl ⟨by rfl, ?_⟩) (by assumption) ?_; rotate_left 1; (focus (intro wS hSw; obtain ⟨hS1, hS2, hS3, hS4⟩ := hSw; go_simp <;> with_reducible rfl)); (try simp only [Act.put, List.setIfInBounds_toArray, List.set_cons_zero, List.set_cons_succ]))
              (refine Lw.take1 (i := 1) (v := ?_) rfl (by kernel_rfl) (by kernel_rfl) (by kernel_rfl) (fun _ _ _ h => h) (Or.inl ⟨by rfl, ?_⟩) (by assumption) ?_; rotate_left 1; (focus (intro wS hSw; obtain ⟨hS1, hS2, hS3, hS4⟩ := hSw; go_simp <;> with_reducible rfl)); (try simp only [Act.put, List.setIfInBounds_toArray, List.set_cons_zero, List.set_cons_succ]))
              (refine Lw.take1 (i := 2) (v := ?_) rfl (by kernel_rfl) (by kernel_rfl) (by kernel_rfl) (fun _ _ _ h => h) (Or.inl ⟨by rfl, ?_⟩) (by assumption) ?_; rotate_left 1; (focus (intro wS hSw; obtain ⟨hS1, hS2, hS3, hS4⟩ := hSw; go_simp <;> with_reducible rfl)); (try simp only [Act.put, List.setIfInBounds_toArray, List.set_cons_zero, List.set_cons_succ]))
              (refine Lw.take1 (i := 3) (v := ?_) rfl (by kernel_rfl) (by kernel_rfl) (by kernel_rfl) (fun _ _ _ h => h) (Or.inl ⟨by rfl, ?_⟩) (by assumption) ?_; rotate_left 1; (focus (intro wS hSw; obtain ⟨hS1, hS2, hS3, hS4⟩ := hSw; go_simp <;> with_reducible rfl)); (try simp only [Act.put, List.setIfInBounds_toArray, List.set_cons_zero, List.set_cons_succ]))
              (refine Lw.take1 (i := 4) (v := ?_) rfl (by kernel_rfl) (by kernel_rfl) (by kernel_rfl) (fun _ _ _ h => h) (Or.inl ⟨by rfl, ?_⟩) (by assumption) ?_; rotate_left 1; (focus (intro wS hSw; obtain ⟨hS1, hS2, hS3, hS4⟩ := hSw; go_simp <;> with_reducible rfl)); (try simp only [Act.put, List.setIfInBounds_toArray, List.set_cons_zero, List.set_cons_succ]))
              (refine Lw.take1 (i := 5) (v := ?_) rfl (by kernel_rfl) (by kernel_rfl) (by kernel_rfl) (fun _ _ _ h => h) (Or.inl ⟨by rfl, ?_⟩) (by assumption) ?_; rotate_left 1; (focus (intro wS hSw; obtain ⟨hS1, hS2, hS3, hS4⟩ := hSw; go_simp <;> with_reducible rfl)); (try simp only [Act.put, List.setIfInBounds_toArray, List.set_cons_zero, List.set_cons_succ]))
              (refine Lw.take1 (i := 6) (v := ?_) rfl (by kernel_rfl) (by kernel_rfl) (by kernel_rfl) (fun _ _ _ h => h) (Or.inl ⟨by rfl, ?_⟩) (by assumption) ?_; rotate_left 1; (focus (intro wS hSw; obtain ⟨hS1, hS2, hS3, hS4⟩ := hSw; go_simp <;> with_reducible rfl)); (try simp only [Act.put, List.setIfInBounds_toArray, List.set_cons_zero, List.set_cons_succ]))
              (refine Lw.take1 (i := 7) (v := ?_) rfl (by kernel_rfl) (by kernel_rfl) (by kernel_rfl) (fun _ _ _ h => h) (Or.inl ⟨by rfl, ?_⟩) (by assumption) ?_; rotate_left 1; (focus (intro wS hSw; obtain ⟨hS1, hS2, hS3, hS4⟩ := hSw; go_simp <;> with_reducible rfl)); (try simp only [Act.put, List.setIfInBounds_toArray, List.set_cons_zero, List.set_cons_succ]))
              (refine Lw.take1 (i := 8) (v := ?_) rfl (by kernel_rfl) (by kernel_rfl) (by kernel_rfl) (fun _ _ _ h => h) (Or.inl ⟨by rfl, ?_⟩) (by assumption) ?_; rotate_left 1; (focus (intro wS hSw; obtain ⟨hS1, hS2, hS3, hS4⟩ := hSw; go_simp <;> with_reducible rfl)); (try simp only [Act.put, List.setIfInBounds_toArray, List.set_cons_zero, List.set_cons_succ]))
              (refine Lw.take1 (i := 9) (v := ?_) rfl (by kernel_rfl) (by kernel_rfl) (by kernel_rfl) (fun _ _ _ h => h) (Or.inl ⟨by rfl, ?_⟩) (by assumption) ?_; rotate_left 1; (focus (intro wS hSw; obtain ⟨hS1, hS2, hS3, hS4⟩ := hSw; go_simp <;> with_reducible rfl)); (try simp only [Act.put, List.setIfInBounds_toArray, List.set_cons_zero, List.set_cons_succ]))
              (refine Lw.take1 (i := 10) (v := ?_) rfl (by kernel_rfl) (by kernel_rfl) (by kernel_rfl) (fun _ _ _ h => h) (Or.inl ⟨by rfl, ?_⟩) (by assumption) ?_; rotate_left 1; (focus (intro wS hSw; obtain ⟨hS1, hS2, hS3, hS4⟩ := hSw; go_simp <;> with_reducible rfl)); (try simp only [Act.put, List.setIfInBounds_toArray, List.set_cons_zero, List.set_cons_succ]))
              (refine Lw.take1 (i := 11) (v := undef) rfl (by kernel_rfl) (by kernel_rfl) (by kernel_rfl) (fun _ _ _ h => h) (Or.inr ⟨by rfl, rfl⟩) (by assumption) ?_; (try simp only [Act.put, List.setIfInBounds_toArray, List.set_cons_zero, List.set_cons_succ]))
              (refine Lw.take1 (i := 12) (v := undef) rfl (by kernel_rfl) (by kernel_rfl) (by kernel_rfl) (fun _ _ _ h => h) (Or.inr ⟨by rfl, rfl⟩) (by assumption) ?_; (try simp only [Act.put, List.setIfInBounds_toArray, List.set_cons_zero, List.set_cons_succ]))
              (refine Lw.take1 (i := 13) (v := undef) rfl (by kernel_rfl) (by kernel_rfl) (by kernel_rfl) (fun _ _ _ h => h) (Or.inr ⟨by rfl, rfl⟩) (by assumption) ?_; (try simp only [Act.put, List.setIfInBounds_toArray, List.set_cons_zero, List.set_cons_succ]))
              (refine Lw.take1 (i := 14) (v := undef) rfl (by kernel_rfl) (by kernel_rfl) (by kernel_rfl) (fun _ _ _ h => h) (Or.inr ⟨by rfl, rfl⟩) (by assumption) ?_; (try simp only [Act.put, List.setIfInBounds_toArray, List.set_cons_zero, List.set_cons_succ]))
              (refine Lw.take1 (i := 15) (v := undef) rfl (by kernel_rfl) (by kernel_rfl) (by kernel_rfl) (fun _ _ _ h => h) (Or.inr ⟨by rfl, rfl⟩) (by assumption) ?_; (try simp only [Act.put, List.setIfInBounds_toArray, List.set_cons_zero, List.set_cons_succ]))
              (refine Lw.take1 (i := 16) (v := undef) rfl (by kernel_rfl) (by kernel_rfl) (by kernel_rfl) (fun _ _ _ h => h) (Or.inr ⟨by rfl, rfl⟩) (by assumption) ?_; (try simp only [Act.put, List.setIfInBounds_toArray, List.set_cons_zero, List.set_cons_succ]))
              (refine Lw.take1 (i := 17) (v := undef) rfl (by kernel_rfl) (by kernel_rfl) (by kernel_rfl) (fun _ _ _ h => h) (Or.inr ⟨by rfl, rfl⟩) (by assumption) ?_; (try simp only [Act.put, List.setIfInBounds_toArray, List.set_cons_zero, List.set_cons_succ]))
              (refine Lw.take1 (i := 18) (v := undef) rfl (by kernel_rfl) (by kernel_rfl) (by kernel_rfl) (fun _ _ _ h => h) (Or.inr ⟨by rfl, rfl⟩) (by assumption) ?_; (try simp only [Act.put, List.setIfInBounds_toArray, List.set_cons_zero, List.set_cons_succ]))
              (refine Lw.take1 (i := 19) (v := undef) rfl (by kernel_rfl) (by kernel_rfl) (by kernel_rfl) (fun _ _ _ h => h) (Or.inr ⟨by rfl, rfl⟩) (by assumption) ?_; (try simp only [Act.put, List.setIfInBounds_toArray, List.set_cons_zero, List.set_cons_succ]))
              (refine Lw.take1 (i := 20) (v := ?_) rfl (by kernel_rfl) (by kernel_rfl) (by kernel_rfl) (fun _ _ _ h => h) (Or.inl ⟨by rfl, ?_⟩) (by assumption) ?_; rotate_left 1; (focus (intro wS hSw; obtain ⟨hS1, hS2, hS3, hS4⟩ := hSw; go_simp <;> with_reducible rfl)); (try simp only [Act.put, List.setIfInBounds_toArray, List.set_cons_zero, List.set_cons_succ]))
              (refine Lw.take1 (i := 21) (v := ?_) rfl (by kernel_rfl) (by kernel_rfl) (by kernel_rfl) (fun _ _ _ h => h) (Or.inl ⟨by rfl, ?_⟩) (by assumption) ?_; rotate_left 1; (focus (intro wS hSw; obtain ⟨hS1, hS2, hS3, hS4⟩ := hSw; go_simp <;> with_reducible rfl)); (try simp only [Act.put, List.setIfInBounds_toArray, List.set_cons_zero, List.set_cons_succ]))
              refine wpAnyH_done (by kernel_rfl) ?_ _
              clear hHeld
              go_wp2
              go_roundw
              case rel => exact ⟨k + 1, by go_num, by omega, by rw [NXT.out, KQ.out], Lw.bt hB (Below.drew HBW.out)⟩
              case measure => simp [intOf]; omega

          · rw [if_neg y1, if_neg y2] at e2
            simp only [Prod.mk.injEq] at e2
            obtain ⟨rfl, rfl⟩ := e2
            have z1 : ((q : Int) == 0) = false := by rw [beq_eq_false_iff_ne]; omega
            have z3 : ¬ (14 : Int) < (hn' : Int) := by omega
            obtain ⟨hokR, _⟩ := HOK.out
            have HKR := Lib.hid hokR
            have BY := Lib.hid (fun w R1 R2 => ref_Bytes Ab hA bd.length hn' cb hc' bd bd w R1 R2 (by have := LZ.out; simp only at this; omega) (by omega))
            clear SR hq y1
            rcases hk2 with rfl | rfl
            · skip
              go_wp2
              refine Lw.at_world (fun W1 HW1 => ?_)
              have hbW : Below wr.heap.size wr W1 := by rw [HW1.out]; exact Lw.balloc (Below.refl _ wr) _
              have bH : W1.heap[wr.heap.size]? = some (.cells (HopC ⟨2, kk, ll, hA, hn', hc', bd, lk, at', 0⟩) 33 (0, 0)) := by rw [HW1.out]; exact Lw.blk_new _ _ _
              have b3 := Lw.blk_cell bH 3
              simp at b3
              have x1 := (hbW.cell (p := a1.add (k * 2)) (by rw [Lw.add_block]; exact ha1)).trans c1
              have x2 := (hbW.cell (p := ⟨(a1.add (k * 2)).block, (a1.add (k * 2)).off + 1, none⟩) (by show (a1.add (k * 2)).block < _; rw [Lw.add_block]; exact ha1)).trans d1
              have v1 : (a1.add (k * 2)).block < W1.heap.size := by rw [Lw.add_block]; exact Nat.lt_of_lt_of_le ha1 hbW.size
              have v2 : wr.heap.size < W1.heap.size := Lw.blk_lt bH
              have i0 : (0 : Int) ≤ (k : Int) := by omega
              have HBW := Lib.hid hbW
              clear hbW h0 h1 h2 h3 h4 h5 h6 c1 d1
              refine wp_region_held_drew (S := Lw.Sm W1) (by kernel_rfl) (Lw.sm_drew W1) (fun hHeld => ?_)

              (refine Lw.take1 (i := 0) (v := ?_) rfl (by kernel_rfl) (by kernel_rfl) (by kernel_rfl) (fun _ _ _ h => h) (Or.inl ⟨by rfl, ?_⟩) (by assumption) ?_; rotate_left 1; (focus (intro wS hSw; obtain ⟨hS1, hS2, hS3, hS4⟩ := hSw; go_simp <;> with_reducible rfl)); (try simp only [Act.put, List.setIfInBounds_toArray, List.set_cons_zero, List.set_cons_succ]))
              (refine Lw.take1 (i := 1) (v := ?_) rfl (by kernel_rfl) (by kernel_rfl) (by kernel_rfl) (fun _ _ _ h => h) (Or.inl ⟨by rfl, ?_⟩) (by assumption) ?_; rotate_left 1; (focus (intro wS hSw; obtain ⟨hS1, hS2, hS3, hS4⟩ := hSw; go_simp <;> with_reducible rfl)); (try simp only [Act.put, List.setIfInBounds_toArray, List.set_cons_zero, List.set_cons_succ]))
              (refine Lw.take1 (i := 2) (v := ?_) rfl (by kernel_rfl) (by kernel_rfl) (by kernel_rfl) (fun _ _ _ h => h) (Or.inl ⟨by rfl, ?_⟩) (by assumption) ?_; rotate_left 1; (focus (intro wS hSw; obtain ⟨hS1, hS2, hS3, hS4⟩ := hSw; go_simp <;> with_reducible rfl)); (try simp only [Act.put, List.setIfInBounds_toArray, List.set_cons_zero, List.set_cons_succ]))
              (refine Lw.take1 (i := 3) (v := ?_) rfl (by kernel_rfl) (by kernel_rfl) (by kernel_rfl) (fun _ _ _ h => h) (Or.inl ⟨by rfl, ?_⟩) (by assumption) ?_; rotate_left 1; (focus (intro wS hSw; obtain ⟨hS1, hS2, hS3, hS4⟩ := hSw; go_simp <;> with_reducible rfl)); (try simp only [Act.put, List.setIfInBounds_toArray, List.set_cons_zero, List.set_cons_succ]))
              (refine Lw.take1 (i := 4) (v := ?_) rfl (by kernel_rfl) (by kernel_rfl) (by kernel_rfl) (fun _ _ _ h => h) (Or.inl ⟨by rfl, ?_⟩) (by assumption) ?_; rotate_left 1; (focus (intro wS hSw; obtain ⟨hS1, hS2, hS3, hS4⟩ := hSw; go_simp <;> with_reducible rfl)); (try simp only [Act.put, List.setIfInBounds_toArray, List.set_cons_zero, List.set_cons_succ]))
              (refine Lw.take1 (i := 5) (v := ?_) rfl (by kernel_rfl) (by kernel_rfl) (by kernel_rfl) (fun _ _ _ h => h) (Or.inl ⟨by rfl, ?_⟩) (by assumption) ?_; rotate_left 1; (focus (intro wS hSw; obtain ⟨hS1, hS2, hS3, hS4⟩ := hSw; go_simp <;> with_reducible rfl)); (try simp only [Act.put, List.setIfInBounds_toArray, List.set_cons_zero, List.set_cons_succ]))
              (refine Lw.take1 (i := 6) (v := ?_) rfl (by kernel_rfl) (by kernel_rfl) (by kernel_rfl) (fun _ _ _ h => h) (Or.inl ⟨by rfl, ?_⟩) (by assumption) ?_; rotate_left 1; (focus (intro wS hSw; obtain ⟨hS1, hS2, hS3, hS4⟩ := hSw; go_simp <;> with_reducible rfl)); (try simp only [Act.put, List.setIfInBounds_toArray, List.set_cons_zero, List.set_cons_succ]))
              (refine Lw.take1 (i := 7) (v := ?_) rfl (by kernel_rfl) (by kernel_rfl) (by kernel_rfl) (fun _ _ _ h => h) (Or.inl ⟨by rfl, ?_⟩) (by assumption) ?_; rotate_left 1; (focus (intro wS hSw; obtain ⟨hS1, hS2, hS3, hS4⟩ := hSw; go_simp <;> with_reducible rfl)); (try simp only [Act.put, List.setIfInBounds_toArray, List.set_cons_zero, List.set_cons_succ]))
              (refine Lw.take1 (i := 8) (v := ?_) rfl (by kernel_rfl) (by kernel_rfl) (by kernel_rfl) (fun _ _ _ h => h) (Or.inl ⟨by rfl, ?_⟩) (by assumption) ?_; rotate_left 1; (focus (intro wS hSw; obtain ⟨hS1, hS2, hS3, hS4⟩ := hSw; go_simp <;> with_reducible rfl)); (try simp only [Act.put, List.setIfInBounds_toArray, List.set_cons_zero, List.set_cons_succ]))
              (refine Lw.take1 (i := 9) (v := ?_) rfl (by kernel_rfl) (by kernel_rfl) (by kernel_rfl) (fun _ _ _ h => h) (Or.inl ⟨by rfl, ?_⟩) (by assumption) ?_; rotate_left 1; (focus (intro wS hSw; obtain ⟨hS1, hS2, hS3, hS4⟩ := hSw; go_simp <;> with_reducible rfl)); (try simp only [Act.put, List.setIfInBounds_toArray, List.set_cons_zero, List.set_cons_succ]))
              (refine Lw.take1 (i := 10) (v := ?_) rfl (by kernel_rfl) (by kernel_rfl) (by kernel_rfl) (fun _ _ _ h => h) (Or.inl ⟨by rfl, ?_⟩) (by assumption) ?_; rotate_left 1; (focus (intro wS hSw; obtain ⟨hS1, hS2, hS3, hS4⟩ := hSw; go_simp <;> with_reducible rfl)); (try simp only [Act.put, List.setIfInBounds_toArray, List.set_cons_zero, List.set_cons_succ]))
              (refine Lw.take1 (i := 11) (v := ?_) rfl (by kernel_rfl) (by kernel_rfl) (by kernel_rfl) (fun _ _ _ h => h) (Or.inl ⟨by rfl, ?_⟩) (by assumption) ?_; rotate_left 1; (focus (intro wS hSw; obtain ⟨hS1, hS2, hS3, hS4⟩ := hSw; go_simp <;> with_reducible rfl)); (try simp only [Act.put, List.setIfInBounds_toArray, List.set_cons_zero, List.set_cons_succ]))
              (refine Lw.take1 (i := 12) (v := ?_) rfl (by kernel_rfl) (by kernel_rfl) (by kernel_rfl) (fun _ _ _ h => h) (Or.inl ⟨by rfl, ?_⟩) (by assumption) ?_; rotate_left 1; (focus (intro wS hSw; obtain ⟨hS1, hS2, hS3, hS4⟩ := hSw; go_simp <;> with_reducible rfl)); (try simp only [Act.put, List.setIfInBounds_toArray, List.set_cons_zero, List.set_cons_succ]))
              (refine Lw.take1 (i := 13) (v := ?_) rfl (by kernel_rfl) (by kernel_rfl) (by kernel_rfl) (fun _ _ _ h => h) (Or.inl ⟨by rfl, ?_⟩) (by assumption) ?_; rotate_left 1; (focus (intro wS hSw; obtain ⟨hS1, hS2, hS3, hS4⟩ := hSw; go_simp <;> with_reducible rfl)); (try simp only [Act.put, List.setIfInBounds_toArray, List.set_cons_zero, List.set_cons_succ]))
              (refine Lw.take1 (i := 14) (v := ?_) rfl (by kernel_rfl) (by kernel_rfl) (by kernel_rfl) (fun _ _ _ h => h) (Or.inl ⟨by rfl, ?_⟩) (by assumption) ?_; rotate_left 1; (focus (intro wS hSw; obtain ⟨hS1, hS2, hS3, hS4⟩ := hSw; go_simp <;> with_reducible rfl)); (try simp only [Act.put, List.setIfInBounds_toArray, List.set_cons_zero, List.set_cons_succ]))
              (refine Lw.take1 (i := 15) (v := ?_) rfl (by kernel_rfl) (by kernel_rfl) (by kernel_rfl) (fun _ _ _ h => h) (Or.inl ⟨by rfl, ?_⟩) (by assumption) ?_; rotate_left 1; (focus (intro wS hSw; obtain ⟨hS1, hS2, hS3, hS4⟩ := hSw; go_simp <;> with_reducible rfl)); (try simp only [Act.put, List.setIfInBounds_toArray, List.set_cons_zero, List.set_cons_succ]))
              (refine Lw.take1 (i := 16) (v := ?_) rfl (by kernel_rfl) (by kernel_rfl) (by kernel_rfl) (fun _ _ _ h => h) (Or.inl ⟨by rfl, ?_⟩) (by assumption) ?_; rotate_left 1; (focus (intro wS hSw; obtain ⟨hS1, hS2, hS3, hS4⟩ := hSw; go_simp <;> with_reducible rfl)); (try simp only [Act.put, List.setIfInBounds_toArray, List.set_cons_zero, List.set_cons_succ]))
              (refine Lw.take1 (i := 17) (v := ?_) rfl (by kernel_rfl) (by kernel_rfl) (by kernel_rfl) (fun _ _ _ h => h) (Or.inl ⟨by rfl, ?_⟩) (by assumption) ?_; rotate_left 1; (focus (intro wS hSw; obtain ⟨hS1, hS2, hS3, hS4⟩ := hSw; go_simp <;> with_reducible rfl)); (try simp only [Act.put, List.setIfInBounds_toArray, List.set_cons_zero, List.set_cons_succ]))
              (refine wpAnyH_ready (rs := [18]) (by kernel_rfl) (by simp) ?_; refine Lw.cons1 (i := 18) rfl (fun K hK => ?_) AllReadyH.nil; go_simp; go_at_call 8; (with_reducible refine (BY.out _ ((Lw.Rd.of_own OWB.out).below (Nat.le_refl _) HBW.out).drew (Lw.Rd.below HKR.out (Nat.le_refl _) HBW.out).drew).mono ?_); rintro e w3 ⟨rfl, hb3⟩; refine hK.out _ _ ?_ (fun hHeld => ?_); (focus exact Lw.sm_keep (Lw.sm_drew W1) hb3); clear hK K; (try simp only [Act.put, List.setIfInBounds_toArray, List.set_cons_zero, List.set_cons_succ]))
              (refine Lw.take1 (i := 19) (v := ?_) rfl (by kernel_rfl) (by kernel_rfl) (by kernel_rfl) (fun _ _ _ h => h) (Or.inl ⟨by rfl, ?_⟩) (by assumption) ?_; rotate_left 1; (focus (intro wS hSw; obtain ⟨hS1, hS2, hS3, hS4⟩ := hSw; go_simp <;> with_reducible rfl)); (try simp only [Act.put, List.setIfInBounds_toArray, List.set_cons_zero, List.set_cons_succ]))
              (refine Lw.take1 (i := 20) (v := ?_) rfl (by kernel_rfl) (by kernel_rfl) (by kernel_rfl) (fun _ _ _ h => h) (Or.inl ⟨by rfl, ?_⟩) (by assumption) ?_; rotate_left 1; (focus (intro wS hSw; obtain ⟨hS1, hS2, hS3, hS4⟩ := hSw; go_simp <;> with_reducible rfl)); (try simp only [Act.put, List.setIfInBounds_toArray, List.set_cons_zero, List.set_cons_succ]))
              (refine Lw.take1 (i := 21) (v := ?_) rfl (by kernel_rfl) (by kernel_rfl) (by kernel_rfl) (fun _ _ _ h => h) (Or.inl ⟨by rfl, ?_⟩) (by assumption) ?_; rotate_left 1; (focus (intro wS hSw; obtain ⟨hS1, hS2, hS3, hS4⟩ := hSw; go_simp <;> with_reducible rfl)); (try simp only [Act.put, List.setIfInBounds_toArray, List.set_cons_zero, List.set_cons_succ]))
              refine wpAnyH_done (by kernel_rfl) ?_ _
              clear hHeld
              go_wp2
              go_roundw
              case rel => exact ⟨k + 1, by go_num, by omega, by rw [NXT.out, KQ.out], Lw.bt (Lw.bt hB (Below.drew HBW.out)) hb3⟩
              case measure => simp [intOf]; omega

            · skip
              go_wp2
              refine Lw.at_world (fun W1 HW1 => ?_)
              have hbW : Below wr.heap.size wr W1 := by rw [HW1.out]; exact Lw.balloc (Below.refl _ wr) _
              have bH : W1.heap[wr.heap.size]? = some (.cells (HopC ⟨3, kk, ll, hA, hn', hc', bd, lk, at', 0⟩) 33 (0, 0)) := by rw [HW1.out]; exact Lw.blk_new _ _ _
              have b3 := Lw.blk_cell bH 3
              simp at b3
              have x1 := (hbW.cell (p := a1.add (k * 2)) (by rw [Lw.add_block]; exact ha1)).trans c1
              have x2 := (hbW.cell (p := ⟨(a1.add (k * 2)).block, (a1.add (k * 2)).off + 1, none⟩) (by show (a1.add (k * 2)).block < _; rw [Lw.add_block]; exact ha1)).trans d1
              have v1 : (a1.add (k * 2)).block < W1.heap.size := by rw [Lw.add_block]; exact Nat.lt_of_lt_of_le ha1 hbW.size
              have v2 : wr.heap.size < W1.heap.size := Lw.blk_lt bH
              have i0 : (0 : Int) ≤ (k : Int) := by omega
              have HBW := Lib.hid hbW
              clear hbW h0 h1 h2 h3 h4 h5 h6 c1 d1
              refine wp_region_held_drew (S := Lw.Sm W1) (by kernel_rfl) (Lw.sm_drew W1) (fun hHeld => ?_)

              (refine Lw.take1 (i := 0) (v := ?_) rfl (by kernel_rfl) (by kernel_rfl) (by kernel_rfl) (fun _ _ _ h => h) (Or.inl ⟨by rfl, ?_⟩) (by assumption) ?_; rotate_left 1; (focus (intro wS hSw; obtain ⟨hS1, hS2, hS3, hS4⟩ := hSw; go_simp <;> with_reducible rfl)); (try simp only [Act.put, List.setIfInBounds_toArray, List.set_cons_zero, List.set_cons_succ]))
              (refine Lw.take1 (i := 1) (v := ?_) rfl (by kernel_rfl) (by kernel_rfl) (by kernel_rfl) (fun _ _ _ h => h) (Or.inl ⟨by rfl, ?_⟩) (by assumption) ?_; rotate_left 1; (focus (intro wS hSw; obtain ⟨hS1, hS2, hS3, hS4⟩ := hSw; go_simp <;> with_reducible rfl)); (try simp only [Act.put, List.setIfInBounds_toArray, List.set_cons_zero, List.set_cons_succ]))
              (refine Lw.take1 (i := 2) (v := ?_) rfl (by kernel_rfl) (by kernel_rfl) (by kernel_rfl) (fun _ _ _ h => h) (Or.inl ⟨by rfl, ?_⟩) (by assumption) ?_; rotate_left 1; (focus (intro wS hSw; obtain ⟨hS1, hS2, hS3, hS4⟩ := hSw; go_simp <;> with_reducible rfl)); (try simp only [Act.put, List.setIfInBounds_toArray, List.set_cons_zero, List.set_cons_succ]))
              (refine Lw.take1 (i := 3) (v := ?_) rfl (by kernel_rfl) (by kernel_rfl) (by kernel_rfl) (fun _ _ _ h => h) (Or.inl ⟨by rfl, ?_⟩) (by assumption) ?_; rotate_left 1; (focus (intro wS hSw; obtain ⟨hS1, hS2, hS3, hS4⟩ := hSw; go_simp <;> with_reducible rfl)); (try simp only [Act.put, List.setIfInBounds_toArray, List.set_cons_zero, List.set_cons_succ]))
              (refine Lw.take1 (i := 4) (v := ?_) rfl (by kernel_rfl) (by kernel_rfl) (by kernel_rfl) (fun _ _ _ h => h) (Or.inl ⟨by rfl, ?_⟩) (by assumption) ?_; rotate_left 1; (focus (intro wS hSw; obtain ⟨hS1, hS2, hS3, hS4⟩ := hSw; go_simp <;> with_reducible rfl)); (try simp only [Act.put, List.setIfInBounds_toArray, List.set_cons_zero, List.set_cons_succ]))
              (refine Lw.take1 (i := 5) (v := ?_) rfl (by kernel_rfl) (by kernel_rfl) (by kernel_rfl) (fun _ _ _ h => h) (Or.inl ⟨by rfl, ?_⟩) (by assumption) ?_; rotate_left 1; (focus (intro wS hSw; obtain ⟨hS1, hS2, hS3, hS4⟩ := hSw; go_simp <;> with_reducible rfl)); (try simp only [Act.put, List.setIfInBounds_toArray, List.set_cons_zero, List.set_cons_succ]))
              (refine Lw.take1 (i := 6) (v := ?_) rfl (by kernel_rfl) (by kernel_rfl) (by kernel_rfl) (fun _ _ _ h => h) (Or.inl ⟨by rfl, ?_⟩) (by assumption) ?_; rotate_left 1; (focus (intro wS hSw; obtain ⟨hS1, hS2, hS3, hS4⟩ := hSw; go_simp <;> with_reducible rfl)); (try simp only [Act.put, List.setIfInBounds_toArray, List.set_cons_zero, List.set_cons_succ]))
              (refine Lw.take1 (i := 7) (v := ?_) rfl (by kernel_rfl) (by kernel_rfl) (by kernel_rfl) (fun _ _ _ h => h) (Or.inl ⟨by rfl, ?_⟩) (by assumption) ?_; rotate_left 1; (focus (intro wS hSw; obtain ⟨hS1, hS2, hS3, hS4⟩ := hSw; go_simp <;> with_reducible rfl)); (try simp only [Act.put, List.setIfInBounds_toArray, List.set_cons_zero, List.set_cons_succ]))
              (refine Lw.take1 (i := 8) (v := ?_) rfl (by kernel_rfl) (by kernel_rfl) (by kernel_rfl) (fun _ _ _ h => h) (Or.inl ⟨by rfl, ?_⟩) (by assumption) ?_; rotate_left 1; (focus (intro wS hSw; obtain ⟨hS1, hS2, hS3, hS4⟩ := hSw; go_simp <;> with_reducible rfl)); (try simp only [Act.put, List.setIfInBounds_toArray, List.set_cons_zero, List.set_cons_succ]))
              (refine Lw.take1 (i := 9) (v := ?_) rfl (by kernel_rfl) (by kernel_rfl) (by kernel_rfl) (fun _ _ _ h => h) (Or.inl ⟨by rfl, ?_⟩) (by assumption) ?_; rotate_left 1; (focus (intro wS hSw; obtain ⟨hS1, hS2, hS3, hS4⟩ := hSw; go_simp <;> with_reducible rfl)); (try simp only [Act.put, List.setIfInBounds_toArray, List.set_cons_zero, List.set_cons_succ]))
              (refine Lw.take1 (i := 10) (v := ?_) rfl (by kernel_rfl) (by kernel_rfl) (by kernel_rfl) (fun _ _ _ h => h) (Or.inl ⟨by rfl, ?_⟩) (by assumption) ?_; rotate_left 1; (focus (intro wS hSw; obtain ⟨hS1, hS2, hS3, hS4⟩ := hSw; go_simp <;> with_reducible rfl)); (try simp only [Act.put, List.setIfInBounds_toArray, List.set_cons_zero, List.set_cons_succ]))
              (refine Lw.take1 (i := 11) (v := ?_) rfl (by kernel_rfl) (by kernel_rfl) (by kernel_rfl) (fun _ _ _ h => h) (Or.inl ⟨by rfl, ?_⟩) (by assumption) ?_; rotate_left 1; (focus (intro wS hSw; obtain ⟨hS1, hS2, hS3, hS4⟩ := hSw; go_simp <;> with_reducible rfl)); (try simp only [Act.put, List.setIfInBounds_toArray, List.set_cons_zero, List.set_cons_succ]))
              (refine Lw.take1 (i := 12) (v := ?_) rfl (by kernel_rfl) (by kernel_rfl) (by kernel_rfl) (fun _ _ _ h => h) (Or.inl ⟨by rfl, ?_⟩) (by assumption) ?_; rotate_left 1; (focus (intro wS hSw; obtain ⟨hS1, hS2, hS3, hS4⟩ := hSw; go_simp <;> with_reducible rfl)); (try simp only [Act.put, List.setIfInBounds_toArray, List.set_cons_zero, List.set_cons_succ]))
              (refine Lw.take1 (i := 13) (v := ?_) rfl (by kernel_rfl) (by kernel_rfl) (by kernel_rfl) (fun _ _ _ h => h) (Or.inl ⟨by rfl, ?_⟩) (by assumption) ?_; rotate_left 1; (focus (intro wS hSw; obtain ⟨hS1, hS2, hS3, hS4⟩ := hSw; go_simp <;> with_reducible rfl)); (try simp only [Act.put, List.setIfInBounds_toArray, List.set_cons_zero, List.set_cons_succ]))
              (refine Lw.take1 (i := 14) (v := ?_) rfl (by kernel_rfl) (by kernel_rfl) (by kernel_rfl) (fun _ _ _ h => h) (Or.inl ⟨by rfl, ?_⟩) (by assumption) ?_; rotate_left 1; (focus (intro wS hSw; obtain ⟨hS1, hS2, hS3, hS4⟩ := hSw; go_simp <;> with_reducible rfl)); (try simp only [Act.put, List.setIfInBounds_toArray, List.set_cons_zero, List.set_cons_succ]))
              (refine Lw.take1 (i := 15) (v := ?_) rfl (by kernel_rfl) (by kernel_rfl) (by kernel_rfl) (fun _ _ _ h => h) (Or.inl ⟨by rfl, ?_⟩) (by assumption) ?_; rotate_left 1; (focus (intro wS hSw; obtain ⟨hS1, hS2, hS3, hS4⟩ := hSw; go_simp <;> with_reducible rfl)); (try simp only [Act.put, List.setIfInBounds_toArray, List.set_cons_zero, List.set_cons_succ]))
              (refine Lw.take1 (i := 16) (v := ?_) rfl (by kernel_rfl) (by kernel_rfl) (by kernel_rfl) (fun _ _ _ h => h) (Or.inl ⟨by rfl, ?_⟩) (by assumption) ?_; rotate_left 1; (focus (intro wS hSw; obtain ⟨hS1, hS2, hS3, hS4⟩ := hSw; go_simp <;> with_reducible rfl)); (try simp only [Act.put, List.setIfInBounds_toArray, List.set_cons_zero, List.set_cons_succ]))
              (refine Lw.take1 (i := 17) (v := ?_) rfl (by kernel_rfl) (by kernel_rfl) (by kernel_rfl) (fun _ _ _ h => h) (Or.inl ⟨by rfl, ?_⟩) (by assumption) ?_; rotate_left 1; (focus (intro wS hSw; obtain ⟨hS1, hS2, hS3, hS4⟩ := hSw; go_simp <;> with_reducible rfl)); (try simp only [Act.put, List.setIfInBounds_toArray, List.set_cons_zero, List.set_cons_succ]))
              (refine wpAnyH_ready (rs := [18]) (by kernel_rfl) (by simp) ?_; refine Lw.cons1 (i := 18) rfl (fun K hK => ?_) AllReadyH.nil; go_simp; go_at_call 8; (with_reducible refine (BY.out _ ((Lw.Rd.of_own OWB.out).below (Nat.le_refl _) HBW.out).drew (Lw.Rd.below HKR.out (Nat.le_refl _) HBW.out).drew).mono ?_); rintro e w3 ⟨rfl, hb3⟩; refine hK.out _ _ ?_ (fun hHeld => ?_); (focus exact Lw.sm_keep (Lw.sm_drew W1) hb3); clear hK K; (try simp only [Act.put, List.setIfInBounds_toArray, List.set_cons_zero, List.set_cons_succ]))
              (refine Lw.take1 (i := 19) (v := ?_) rfl (by kernel_rfl) (by kernel_rfl) (by kernel_rfl) (fun _ _ _ h => h) (Or.inl ⟨by rfl, ?_⟩) (by assumption) ?_; rotate_left 1; (focus (intro wS hSw; obtain ⟨hS1, hS2, hS3, hS4⟩ := hSw; go_simp <;> with_reducible rfl)); (try simp only [Act.put, List.setIfInBounds_toArray, List.set_cons_zero, List.set_cons_succ]))
              (refine Lw.take1 (i := 20) (v := ?_) rfl (by kernel_rfl) (by kernel_rfl) (by kernel_rfl) (fun _ _ _ h => h) (Or.inl ⟨by rfl, ?_⟩) (by assumption) ?_; rotate_left 1; (focus (intro wS hSw; obtain ⟨hS1, hS2, hS3, hS4⟩ := hSw; go_simp <;> with_reducible rfl)); (try simp only [Act.put, List.setIfInBounds_toArray, List.set_cons_zero, List.set_cons_succ]))
              (refine Lw.take1 (i := 21) (v := ?_) rfl (by kernel_rfl) (by kernel_rfl) (by kernel_rfl) (fun _ _ _ h => h) (Or.inl ⟨by rfl, ?_⟩) (by assumption) ?_; rotate_left 1; (focus (intro wS hSw; obtain ⟨hS1, hS2, hS3, hS4⟩ := hSw; go_simp <;> with_reducible rfl)); (try simp only [Act.put, List.setIfInBounds_toArray, List.set_cons_zero, List.set_cons_succ]))
              refine wpAnyH_done (by kernel_rfl) ?_ _
              clear hHeld
              go_wp2
              go_roundw
              case rel => exact ⟨k + 1, by go_num, by omega, by rw [NXT.out, KQ.out], Lw.bt (Lw.bt hB (Below.drew HBW.out)) hb3⟩
              case measure => simp [intOf]; omega

        · rcases (by omega : (¬ kd = 2 ∧ ¬ kd = 3) ∨ (kd = 2 ∧ ¬ tn = 0) ∨ (kd = 3 ∧ ¬ tn = 0)) with ⟨y1, y2⟩ | ⟨rfl, y2⟩ | ⟨rfl, y2⟩
          · have z1 : (kd != 2) = true := by simpa using y1
            have z2 : (kd != 3) = true := by simpa using y2
            clear hk y1 y2
            go_wp2
            go_roundw
            case rel => exact ⟨k + 1, by go_num, by omega, (by rw [NXT.out, KQ.out] <;> simp), Lw.balloc hB _⟩
            case measure => simp [intOf]; omega

          all_goals
            have z1 : (tn != 0) = true := by simpa using y2
            clear hk y2
            go_wp2
            go_roundw
            case rel => exact ⟨k + 1, by go_num, by omega, (by rw [NXT.out, KQ.out] <;> simp), Lw.balloc hB _⟩
            case measure => simp [intOf]; omega

    · have hlt' : ¬ (k : Int) < (n : Int) := by omega
      have OKE := (rl_ok (P := P) (Q := Q) (G := G) (ss := ss) (L := L) k (by have := LL.out; omega) (by omega)).1.len
      subst e9
      have z9 : ((Lw.rlRun P Q G ss (L.take k)).2.keys.length : Int) ≤ (sn : Int) := by have := LS.out; omega
      go_wp2
      go_ret
      exact ⟨by simp [z9], Lw.bt hB2 hB⟩
theorem TopRight (P Q G H : Int) (SA : Option Addr) (sn sc : Nat) (zs : List Int) (A : Option Addr) (n c : Nat) (w : World) (wP : (Lit.int .i64 P).wf = true) (wQ : (Lit.int .i64 Q).wf = true) (wG : (Lit.int .i64 G).wf = true) (wH : (Lit.int .i64 H).wf = true)
    (hS : Lw.IsRow .i64 w SA sn sc zs) (h : Lw.IsSl w [Lw.IsI .i64, Lw.IsI .i64, Lw.IsI .i64, Lw.IsS w [Lw.IsI .u8], Lw.IsI .i64, Lw.IsI .i64, Lw.IsI .u8] A n c) :
    Calls Try.prog 3 #[.agg #[.int .i64 P, .int .i64 Q, .int .i64 G, .int .i64 H], .slice SA sn sc, .slice A n c] w fun e w' => e = .returned (.bool true) ∧ Below w.heap.size w w' := by
  obtain ⟨RS, r1, r2, r3, _⟩ := hS.rd
  have hmax : sn ≤ maxLen := by omega
  obtain ⟨L, l1, l2, l3⟩ := h.list (by simp)
  obtain ⟨T, t1, t2, t3⟩ := Lw.hp_list l2
  rw [t2] at l3
  have R : Lw.Rd w 7 A n (Lw.hpsV T) := l3
  by_cases hg : Lw.groupE P Q G H = 0
  · by_cases hz : 3 < sn ∨ 100 < n
    · refine right_bad P Q G H 1 SA sn sc A n c w (by decide) (fun w' hb => play_large P Q G H SA sn sc A n c w' hg hz) (fun w' hb => ?_)
      by_cases ha : Lw.askE P Q G H (zs.take sn) [] = 0
      · exact may_size P Q G H SA sn sc _ A n c w' false (RS.below (Nat.le_refl _) hb) hmax ha (.inr ⟨rfl, hz⟩)
      · exact may_ask P Q G H _ SA sn sc _ A n c w' (RS.below (Nat.le_refl _) hb) hmax rfl (by simpa using ha)
    · cases hr : Lw.outR Q (zs.take sn)
      · have hs : ∀ s ∈ zs.take sn, 0 ≤ s ∧ s < Q := fun s h => by
          have := List.any_eq_false.1 hr s h
          simp at this; omega
        have ha : Lw.askE P Q G H (zs.take sn) [] = 0 := Lw.askE_zero hg (by unfold Lw.psB; rw [List.all_eq_true]; intro s h; have := hs s h; simp; omega) (by unfold Lw.msB; rfl)
        refine right_fits P Q G H SA sn sc _ A n c T w hg RS hs (by omega) R t3 (by omega) (fun w' hb => ?_)
        exact may_size P Q G H SA sn sc _ A n c w' true (RS.below (Nat.le_refl _) hb) hmax ha (.inl ⟨rfl, by omega, by omega⟩)
      · have ha : Lw.askE P Q G H (zs.take sn) [] = 2 := Lw.askE_two [] hg (by
          rw [Bool.eq_false_iff]
          intro e
          obtain ⟨x, hx, hx2⟩ := List.any_eq_true.1 hr
          have := List.all_eq_true.1 e x hx
          simp at hx2 this; omega)
        exact right_bad P Q G H 2 SA sn sc A n c w (by decide) (fun w' hb => play_range P Q G H SA sn sc _ A n c w' hg (RS.below (Nat.le_refl _) hb) (by omega) (by omega) hr) (fun w' hb => may_ask P Q G H 2 SA sn sc _ A n c w' (RS.below (Nat.le_refl _) hb) hmax ha (by decide))
  · exact right_bad P Q G H _ SA sn sc A n c w (by simpa using hg) (fun w' hb => play_group P Q G H _ _ _ w' rfl (by simpa using hg)) (fun w' hb => may_ask P Q G H _ SA sn sc _ A n c w' (RS.below (Nat.le_refl _) hb) hmax (Lw.askE_group _ _ hg) (by simpa using hg))

end Go.Proofs.Ytkjcpjbdckbjcaa.LW
