/- The law RatchetNexts: what a key becomes is what the reference says. -/
import Derived.Test.YtdibbdlpnfcmiaaRat
import Derived.Test.YtdibbdlpnfcmiaaRegS
set_option linter.unusedVariables false
namespace Go.Proofs.Ytdibbdlpnfcmiaa
open Go.RowKit
set_option maxHeartbeats 1000000 in
theorem ref_NextKey (k : Int) (w : World) (k1 : 0 ≤ k) (k2 : k < 65536) :
    Calls Try.prog 19 #[.int .i64 k] w fun e w' => e = .returned (.tuple #[.int .i64 (Lw.keyPart k 1), .int .i64 (Lw.keyPart k 2)]) ∧ Below w.heap.size w w' := by
  have M := Lib.hid (fun w => ref_messageKey k 0 w k1 k2 (by omega))
  have E1 : Hid (Lw.msgKey k 0 = Lw.keyPart k 1) := rfl
  have C := Lib.hid (fun (A : Option Addr) (c : Nat) (w : World) R => ref_Sum A (2 + 1) c (Lw.littleL k 2 ++ [2]) w R (Lw.keyPart_byt (by decide) (by decide)) (by omega))
  have E2 : Hid (Lw.hsum (Lw.littleL k 2 ++ [2]) = Lw.keyPart k 2) := rfl
  go_enter Try.func19, Try.ntmps19
  go_wp2_with fail
  refine (M.out _).mono ?_
  rintro e w0 ⟨rfl, hb0⟩
  go_wp2_with fail
  refine (ref_little k 2 _ k1 (by omega) (by omega)).mono ?_
  rintro e w1 ⟨A1, c1, rfl, own1, hb1⟩
  have hs0 := hb0.size
  have hs1 := hb1.size
  go_wp2_with (at_builtin; refine Lw.wpList_app elByte rfl _ _ rfl rfl (own1.alloc _) rfl (by first | exact Lw.Rd.nil _ _ _ | exact Lw.Rd.lit (Lw.blk_new' (by simp) _ _) rfl rfl | exact Lw.Rd.lit (Lw.blk_alloc (Lw.blk_new' (by simp) _ _) _) rfl rfl) (Lw.one1 _ _) (by omega) (Lw.balloc (Lw.bt hb0 hb1) _) hs0 (by simp; omega) ?_; intro v2 w2 own2 hb2 _ _)
  obtain ⟨A2, c2, rfl, _⟩ := Lw.ownsForm own2
  refine (C.out _ _ _ (by have := Lw.Rd.of_own own2; rw [Lw.intsV_app]; exact this)).mono ?_
  rintro e w3 ⟨rfl, hb3⟩
  go_wp2_with fail
  go_ret2
  rw [← E1.out, ← E2.out]
  exact ⟨rfl, Lw.bt hb2 hb3⟩
namespace LW
set_option maxHeartbeats 2000000 in
theorem RatchetNexts (k : Int) (w : World) (wk : (Lit.int .i64 k).wf = true) :
    Calls Try.prog 5 #[.int .i64 k] w fun e w' => e = .returned (.bool true) ∧ Below w.heap.size w w' := by
  clear wk
  by_cases h : 0 ≤ k ∧ k < 65536
  · obtain ⟨k1, k2⟩ := h
    have N := Lib.hid (fun w => ref_NextKey k w k1 k2)
    have T := Lib.hid (fun (b : Nat) (w : World) hb => ratchet_turn k b 80 w k1 k2 hb)
    obtain ⟨s1, s2⟩ := Lw.keyPart_bd k 1
    obtain ⟨t1, t2⟩ := Lw.keyPart_bd k 2
    generalize Lw.keyPart k 1 = s at *
    generalize Lw.keyPart k 2 = t at *
    have hk : ¬ k < 0 := by omega
    have hk2 : ¬ 65536 ≤ k := by omega
    go_enter Try.func5, Try.ntmps5
    go_wp2_with (first | (go_at_call 46; (with_reducible refine (T.out _ _ (Lw.blk_new _ _ _)).mono ?_); rintro e w1 ⟨rfl, hb1, hg1⟩) | (go_at_call 19; (with_reducible refine (N.out _).mono ?_); rintro e w2 ⟨rfl, hb2⟩) | (go_at_call 18; go_in) | (go_at_call 45; go_in))
    have c0 := Lw.blk_cell hb1 0
    simp at c0
    have hB1 : Below w.heap.size w w1 := (Lw.balloc (Below.refl _ _) _).trans (Lw.grown_below hg1 (Nat.le_refl _) (by simp))
    clear hb1 hg1
    refine wp_region_held_drew (S := fun w' => w'.cell? ⟨w.heap.size, 0, none⟩ = some (.int .i64 t)) (by kernel_rfl) (by exact c0) (fun hHeld => ?_)
    (refine Lw.take1 (i := 0) (v := ?_) rfl (by kernel_rfl) (by kernel_rfl) (by kernel_rfl) (fun _ _ _ h => h) (Or.inl ⟨by rfl, ?_⟩) (by assumption) ?_; rotate_left 1; (focus (intro wS hSw; (try dsimp only at hSw); go_simp <;> with_reducible rfl)); (try simp only [Act.put, List.setIfInBounds_toArray, List.set_cons_zero, List.set_cons_succ]))
    (refine Lw.take1 (i := 1) (v := ?_) rfl (by kernel_rfl) (by kernel_rfl) (by kernel_rfl) (fun _ _ _ h => h) (Or.inl ⟨by rfl, ?_⟩) (by assumption) ?_; rotate_left 1; (focus (intro wS hSw; (try dsimp only at hSw); go_simp <;> with_reducible rfl)); (try simp only [Act.put, List.setIfInBounds_toArray, List.set_cons_zero, List.set_cons_succ]))
    (refine Lw.take1 (i := 2) (v := ?_) rfl (by kernel_rfl) (by kernel_rfl) (by kernel_rfl) (fun _ _ _ h => h) (Or.inl ⟨by rfl, ?_⟩) (by assumption) ?_; rotate_left 1; (focus (intro wS hSw; (try dsimp only at hSw); go_simp <;> with_reducible rfl)); (try simp only [Act.put, List.setIfInBounds_toArray, List.set_cons_zero, List.set_cons_succ]))
    (refine Lw.take1 (i := 3) (v := ?_) rfl (by kernel_rfl) (by kernel_rfl) (by kernel_rfl) (fun _ _ _ h => h) (Or.inl ⟨by rfl, ?_⟩) (by assumption) ?_; rotate_left 1; (focus (intro wS hSw; (try dsimp only at hSw); go_simp <;> with_reducible rfl)); (try simp only [Act.put, List.setIfInBounds_toArray, List.set_cons_zero, List.set_cons_succ]))
    (refine Lw.take1 (i := 4) (v := ?_) rfl (by kernel_rfl) (by kernel_rfl) (by kernel_rfl) (fun _ _ _ h => h) (Or.inl ⟨by rfl, ?_⟩) (by assumption) ?_; rotate_left 1; (focus (intro wS hSw; (try dsimp only at hSw); go_simp <;> with_reducible rfl)); (try simp only [Act.put, List.setIfInBounds_toArray, List.set_cons_zero, List.set_cons_succ]))
    refine wpAnyH_done (by kernel_rfl) ?_ _
    go_wp2_with (go_at_call 19; (with_reducible refine (N.out _).mono ?_); rintro e w2 ⟨rfl, hb2⟩)
    go_ret
    exact ⟨by simp, Lw.bt (Below.drew hB1) hb2⟩
  · have hc : k < 0 ∨ (0 ≤ k ∧ 65536 ≤ k) := by omega
    clear h
    rcases hc with h1 | ⟨h1, h2⟩
    all_goals
      go_enter Try.func5, Try.ntmps5
      go_wp2
      go_ret
      exact ⟨by simp, Below.refl _ _⟩
end LW
end Go.Proofs.Ytdibbdlpnfcmiaa
