/- The law ShareExplains: the numbers make the points shares of the secret, or the code. -/
import Derived.Test.YtjhjppaabmbbbaaShw
import Derived.Test.YtjhjppaabmbbbaaShv
import Derived.Test.YtjhjppaabmbbbaaOpen
set_option linter.unusedVariables false
namespace Lw
theorem horn_mod {p x : Int} (x0 : 0 ≤ x) (x1 : x < p) (zs : List Int) : hornV p zs (x % p) = hornV p zs x := by rw [Int.emod_eq_of_lt x0 x1]
end Lw
namespace Go.Proofs.Ytjhjppaabmbbbaa.LW
open Go.RowKit
set_option maxRecDepth 100000 in
set_option maxHeartbeats 4000000 in
theorem ShareExplains (p : Int) (U : Option Addr) (n c : Nat) (s : Int) (w : World) (wp : (Lit.int .i64 p).wf = true) (h : Lw.IsSl w [Lw.IsI .i64, Lw.IsI .i64] U n c) (ws : (Lit.int .i64 s).wf = true) :
    Calls Try.prog 12 #[.int .i64 p, .slice U n c, .int .i64 s] w fun e w' => e = .returned (.bool true) ∧ Below w.heap.size w w' := by
  obtain ⟨L0, h1, h2, R⟩ := h.list (by simp)
  obtain ⟨L, hL, hw⟩ := Lw.list2 h2
  have e : L0.flatten = Lw.pairsV .i64 .i64 L := by rw [hL]; unfold Lw.pairsV; rw [List.flatMap_def]
  rw [e] at R
  have R : Lw.Rd w 2 U n (Lw.pairsV .i64 .i64 L) := R
  clear h h1 h2 hL e wp ws
  have hw : ∀ r ∈ L, (Lit.int .i64 r.1).wf = true := fun r hr => (hw r hr).1
  have T := fun W (hb : Below w.heap.size w W) => ref_JoinCheck p U n c L W (R.below (Nat.le_refl w.heap.size) hb)
  by_cases h0 : Lw.joinE p L = 0
  · rw [h0] at T
    replace T := Lib.hid T
    by_cases hs : s < 0 ∨ p ≤ s
    · have X := Lib.hid (share_Explain_out p s U n c L w R hw h0 hs)
      have key : s < 0 ∨ (¬ s < 0 ∧ p ≤ s) := by omega
      clear R h0 hw hs
      rcases key with k1 | ⟨k1, k2⟩
      all_goals
        go_enter Try.func12, Try.ntmps12
        go_wp2_with fail
        refine X.out.mono ?_
        rintro e w1 ⟨rfl, hb1⟩
        go_wp2_with fail
        refine (T.out _ hb1).mono ?_
        rintro e w2 ⟨rfl, hb2⟩
        go_wp2_with fail
        go_ret
        exact ⟨by simp, Lw.bt hb1 hb2⟩
    · have k1 : ¬ s < 0 := by omega
      have k2 : ¬ p ≤ s := by omega
      by_cases hn : 12 < n
      · have X := Lib.hid (share_Explain_long p s U n c L w R hw h0 k1 k2 hn)
        have i1 : (12 : Int) < (n : Int) := by omega
        clear R h0 hw hs
        go_enter Try.func12, Try.ntmps12
        go_wp2_with fail
        refine X.out.mono ?_
        rintro e w1 ⟨rfl, hb1⟩
        go_wp2_with fail
        refine (T.out _ hb1).mono ?_
        rintro e w2 ⟨rfl, hb2⟩
        go_wp2_with fail
        go_ret
        exact ⟨by simp, Lw.bt hb1 hb2⟩
      · have X := Lib.hid (share_Explain_ok p s U n c L w R hw h0 k1 k2 hn)
        obtain ⟨h3, h4⟩ := Lw.join_0 h0
        obtain ⟨hp, h13, hLo⟩ := Lw.pts_ok h3
        obtain ⟨p1, p2, pp⟩ := Lw.ppr_ok hp
        have lL := Lw.pairsV_len R
        obtain ⟨x1, x2, x3⟩ := Lw.expA_spec (s := s) h3 h4 (by omega) (by omega)
        generalize Lw.expA p s L = a at *
        have la : a.length = n := by omega
        have HA := Lib.hid x1
        have LA := Lib.hid la
        have LL := Lib.hid lL
        have HV := Lib.hid x3
        have BD := Lib.hid (fun k hk => hLo.bd (k := k) hk)
        have R := Lib.hid R
        have i1 : ¬ (12 : Int) < (n : Int) := by omega
        have AB : Hid (∀ z ∈ s :: a, 0 ≤ z ∧ z < p) := Lib.hid (by
          intro z hz
          rcases List.mem_cons.1 hz with rfl | h
          · omega
          · exact x1 z h)
        clear h0 hw hs h3 h4 hp h13 hLo pp lL x1 x2 x3 la
        go_enter Try.func12, Try.ntmps12
        go_wp2_with fail
        refine X.out.mono ?_
        rintro e w1 ⟨C, g, rfl, R1, hb1⟩
        have R1 := Lib.hid R1
        clear X
        go_wp2_with fail
        refine (T.out _ hb1).mono ?_
        rintro e w2 ⟨rfl, hb2⟩
        have hB2 := Lw.bt hb1 hb2
        have R2 := Lib.hid (R1.out.below (Nat.le_refl _) hb2)
        clear T
        go_wp2_with fail
        go_loopw [11, 54] (fun x i wr => ∃ t : Nat, i = .int .i64 (t : Int) ∧ t ≤ n ∧ wr = w2) (fun _ i _ => n - (intOf i).toNat)
        case atStart => exact ⟨0, rfl, by omega, by first | rfl | trivial⟩
        case round =>
          obtain ⟨t, rfl, k1, rfl⟩ := hrel
          obtain ⟨W0, hW0⟩ : ∃ W0, W0 = wr := ⟨_, rfl⟩
          subst hW0
          by_cases hlt : t < n
          · have hl : t < a.length := by rw [LA.out]; exact hlt
            obtain ⟨ad, rfl, had, hcell⟩ := R2.out.at1 hlt (Lw.intsV_get hl)
            obtain ⟨q1, q2⟩ := HA.out _ (List.getElem_mem hl)
            obtain ⟨x, hx⟩ : ∃ x, a[t] = x := ⟨_, rfl⟩
            rw [hx] at hcell q1 q2
            have q3 : ¬ x < 0 := by omega
            have q4 : ¬ p ≤ x := by omega
            have hlt' : (t : Int) < (n : Int) := by omega
            clear hx hl
            go_wp2_with fail
            go_roundw
            case rel => exact ⟨t + 1, by go_num, by omega, by first | rfl | trivial⟩
            case measure => simp [intOf]; omega
          · have htn : t = n := by omega
            subst htn
            go_wp2_with fail
            go_loopw [13, 68] (fun x i wr => ∃ k : Nat, i = .int .i64 (k : Int) ∧ k ≤ t ∧ Below W0.heap.size W0 wr) (fun _ i _ => t - (intOf i).toNat)
            case atStart => exact ⟨0, rfl, by omega, Below.refl _ _⟩
            case round =>
              obtain ⟨k, rfl, hk, hZ⟩ := hrel
              by_cases hkt : k < t
              · have hl : k < L.length := by rw [LL.out]; exact hkt
                obtain ⟨g0, g1⟩ := Lw.pairsV_get (k := .i64) (l := .i64) hl
                obtain ⟨ad, rfl, had, d0, d1⟩ := (R.out.below (Nat.le_refl _) (Lw.bt hB2 hZ)).at2 hkt g0 g1
                obtain ⟨⟨x0, x1⟩, y0, y1⟩ := BD.out k hl
                have hv := HV.out k hl
                rw [← Lw.ptG_at hl] at d0 d1
                obtain ⟨⟨x, y⟩, hx⟩ : ∃ z, Lw.ptG L k = z := ⟨_, rfl⟩
                rw [hx] at d0 d1 x0 x1 y0 y1 hv
                simp only at d0 d1 x0 x1 y0 y1 hv
                obtain ⟨W, hW⟩ : ∃ W, wr.alloc (.cells #[.int .i64 x, .int .i64 y] 81) = W := ⟨_, rfl⟩
                have B0 := show W.heap[wr.heap.size]? = some (.cells #[.int .i64 x, .int .i64 y] 81 (0, 0)) from hW ▸ Lw.blk_new _ _ _
                have l0 := Lw.blk_cell B0 0; have l1 := Lw.blk_cell B0 1
                simp at l0 l1
                have hBW : Below wr.heap.size wr W := by rw [← hW]; exact Lw.balloc (Below.refl _ _) _
                have hWs : wr.heap.size < W.heap.size := by rw [← hW]; simp
                have HW := Lib.hid hW
                have hkt' : (k : Int) < (t : Int) := by omega
                have RW := Lib.hid (R2.out.below (Nat.le_refl _) (Lw.bt hZ hBW))
                have VV := Lib.hid (fun W' D m d (RD : Lw.Rd W' 1 D m (Lw.intsV .i64 (s :: a))) => ref_Value p D m d (s :: a) x W' RD AB.out p1 p2 (by have := RD.1; have := LA.out; simp [Lw.intsV] at *; omega))
                rw [Lw.horn_mod x0 x1, hv] at VV
                have yy : (y != y) = false := by simp
                clear hW B0 hx g0 g1 hl had BD HV x0 x1 y0 y1 hv
                go_wp2_with fail
                rw [HW.out]
                go_wp2_with fail
                refine wp_region_held_drew (S := Lw.Sm W) (by kernel_rfl) (Lw.sm_drew W) (fun hHeld => ?_)
                (refine Lw.take1 (i := 0) (v := ?_) rfl (by kernel_rfl) (by kernel_rfl) (by kernel_rfl) (fun _ _ _ h => h) (Or.inl ⟨by rfl, ?_⟩) (by assumption) ?_; rotate_left 1; (focus (intro wS hSw; obtain ⟨hS1, hS2, hS3, hS4⟩ := hSw; go_simp <;> with_reducible rfl)); (try simp only [Act.put, List.setIfInBounds_toArray, List.set_cons_zero, List.set_cons_succ]))
                (refine Lw.take1 (i := 1) (v := ?_) rfl (by kernel_rfl) (by kernel_rfl) (by kernel_rfl) (fun _ _ _ h => h) (Or.inl ⟨by rfl, ?_⟩) (by assumption) ?_; rotate_left 1; (focus (intro wS hSw; obtain ⟨hS1, hS2, hS3, hS4⟩ := hSw; go_simp <;> with_reducible rfl)); (try simp only [Act.put, List.setIfInBounds_toArray, List.set_cons_zero, List.set_cons_succ]))
                (refine Lw.take1 (i := 3) (v := ?_) rfl (by kernel_rfl) (by kernel_rfl) (by kernel_rfl) (fun _ _ _ h => h) (Or.inl ⟨by rfl, ?_⟩) (by assumption) ?_; rotate_left 1; (focus (intro wS hSw; obtain ⟨hS1, hS2, hS3, hS4⟩ := hSw; go_simp <;> with_reducible rfl)); (try simp only [Act.put, List.setIfInBounds_toArray, List.set_cons_zero, List.set_cons_succ]))
                (refine Lw.take1 (i := 5) (v := ?_) rfl (by kernel_rfl) (by kernel_rfl) (by kernel_rfl) (fun _ _ _ h => h) (Or.inl ⟨by rfl, ?_⟩) (by assumption) ?_; rotate_left 1; (focus (intro wS hSw; obtain ⟨hS1, hS2, hS3, hS4⟩ := hSw; go_simp <;> with_reducible rfl)); (try simp only [Act.put, List.setIfInBounds_toArray, List.set_cons_zero, List.set_cons_succ]))
                (refine Lw.take1 (i := 6) (v := ?_) rfl (by kernel_rfl) (by kernel_rfl) (by kernel_rfl) (fun _ _ _ h => h) (Or.inl ⟨by rfl, ?_⟩) (by assumption) ?_; rotate_left 1; (focus (intro wS hSw; obtain ⟨hS1, hS2, hS3, hS4⟩ := hSw; go_simp <;> with_reducible rfl)); (try simp only [Act.put, List.setIfInBounds_toArray, List.set_cons_zero, List.set_cons_succ]))
                (refine Lw.take1 (i := 8) (v := ?_) rfl (by kernel_rfl) (by kernel_rfl) (by kernel_rfl) (fun _ _ _ h => h) (Or.inl ⟨by rfl, ?_⟩) (by assumption) ?_; rotate_left 1; (focus (intro wS hSw; obtain ⟨hS1, hS2, hS3, hS4⟩ := hSw; go_simp <;> with_reducible rfl)); (try simp only [Act.put, List.setIfInBounds_toArray, List.set_cons_zero, List.set_cons_succ]))
                (refine Lw.take1 (i := 9) (v := ?_) rfl (by kernel_rfl) (by kernel_rfl) (by kernel_rfl) (fun _ _ _ h => h) (Or.inl ⟨by rfl, ?_⟩) (by assumption) ?_; rotate_left 1; (focus (intro wS hSw; obtain ⟨hS1, hS2, hS3, hS4⟩ := hSw; go_simp <;> with_reducible rfl)); (try simp only [Act.put, List.setIfInBounds_toArray, List.set_cons_zero, List.set_cons_succ]))
                have SB : Lw.Sm W (W.drew.alloc (.cells #[.int .i64 s] 2)) := Lw.sm_of (Lw.balloc (Below.drew (Below.refl _ _)) _)
                (refine wpAnyH_ready (rs := [2]) (by kernel_rfl) (by simp) ?_; refine Lw.cons1 (i := 2) rfl (fun K hK => ?_) AllReadyH.nil; go_simp; refine hK.out _ _ ?_ (fun hHeld => ?_); (focus exact SB); clear hK K; (try simp only [Act.put, List.setIfInBounds_toArray, List.set_cons_zero, List.set_cons_succ]))
                (refine wpAnyH_ready (rs := [4]) (by kernel_rfl) (by simp) ?_; refine Lw.cons1 (i := 4) rfl (fun K hK => ?_) AllReadyH.nil; refine Lw.step_app elPly rfl _ _ rfl rfl (Lw.own_lit W.drew (base := W.heap.size) (size := 1) (n := 1) (xs := [.int .i64 s]) rfl rfl (by decide) (Nat.le_refl _)) rfl ((Lw.Rd.drew RW.out).alloc _) (Lw.intsV_one _ _) (by omega) SB.2.2.2 (Nat.le_refl _) SB.2.2.1 ?_; intro v2 w5 own5 hb5 _ _; refine hK.out _ _ ?_ (fun hHeld => ?_); (focus exact Lw.sm_of hb5); clear hK K; (try simp only [Act.put, List.setIfInBounds_toArray, List.set_cons_zero, List.set_cons_succ]))
                obtain ⟨D, g5, rfl, _⟩ := Lw.ownsForm own5
                have R5 := Lib.hid (show Lw.Rd w5 1 D (1 + t) (Lw.intsV .i64 (s :: a)) from Lw.Rd.of_own own5)
                clear own5
                (refine wpAnyH_ready (rs := [7]) (by kernel_rfl) (by simp) ?_; refine Lw.cons1 (i := 7) rfl (fun K hK => ?_) AllReadyH.nil; go_simp; go_at_call 45; (with_reducible refine (VV.out _ _ _ _ R5.out).mono ?_); rintro e w6 ⟨rfl, hb6⟩; refine hK.out _ _ ?_ (fun hHeld => ?_); (focus exact Lw.sm_of (Lw.bt hb5 hb6)); clear hK K; (try simp only [Act.put, List.setIfInBounds_toArray, List.set_cons_zero, List.set_cons_succ]))
                have hB6 := Lw.bt hb5 hb6
                (refine Lw.take1 (i := 10) (v := ?_) rfl (by kernel_rfl) (by kernel_rfl) (by kernel_rfl) (fun _ _ _ h => h) (Or.inl ⟨by rfl, ?_⟩) (by assumption) ?_; rotate_left 1; (focus (intro wS hSw; obtain ⟨hS1, hS2, hS3, hS4⟩ := hSw; go_simp <;> with_reducible rfl)); (try simp only [Act.put, List.setIfInBounds_toArray, List.set_cons_zero, List.set_cons_succ]))
                refine wpAnyH_done (by kernel_rfl) ?_ _
                go_wp2_with fail
                go_roundw
                case rel => exact ⟨k + 1, by go_num, by omega, Lw.bt (Lw.bt hZ hBW) hB6⟩
                case measure => simp [intOf]; omega
              · have hkt2 : k = t := by omega
                subst hkt2
                go_wp2_with fail
                go_ret
                exact ⟨by simp, Lw.bt hB2 hZ⟩
  · have X := Lib.hid (share_Explain_bad p s U n c L w R hw h0)
    have z : (Lw.joinE p L == 0) = false := by simpa using h0
    have z' : (Lw.joinE p L != 0) = true := by simpa using h0
    replace T := Lib.hid T
    clear R h0 hw
    generalize Lw.joinE p L = E at *
    go_enter Try.func12, Try.ntmps12
    go_wp2_with fail
    refine X.out.mono ?_
    rintro e w1 ⟨rfl, hb1⟩
    go_wp2_with fail
    refine (T.out _ hb1).mono ?_
    rintro e w2 ⟨rfl, hb2⟩
    go_wp2_with fail
    go_ret
    exact ⟨by simp, Lw.bt hb1 hb2⟩
end Go.Proofs.Ytjhjppaabmbbbaa.LW
