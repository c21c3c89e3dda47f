/- Contracts of package talk (but for signatures), and of what its statements ask. -/
import Derived.Test.YtfidmmgcmfnleaaGrp1
import Derived.Test.YtfidmmgcmfnleaaCom
import Derived.StillTailTactics
namespace Lw
theorem askE_one {P Q G H a : Int} (h : groupE P Q G H = 0) : askE P Q G H [a] [] = if 0 ≤ a ∧ a < Q then 0 else 2 := by
  unfold askE
  rw [if_pos h]
  by_cases h1 : 0 ≤ a ∧ a < Q
  · rw [if_pos h1, if_pos (by unfold psB; simp [h1])]; rfl
  · rw [if_neg h1, if_neg (by unfold psB; simp; omega)]
theorem askE_all {P Q G H : Int} {ps : List Int} (h : groupE P Q G H = 0) (h1 : psB Q ps = true) : askE P Q G H ps [] = 0 := askE_zero h h1 rfl
/-- powers and first numbers of what was said -/
def pwsOf (L : List (Int × Int × Int)) : List Int := L.flatMap fun t => [t.2.1, t.2.2]
def fstsOf (L : List (Int × Int × Int)) : List Int := L.map fun t => t.1
theorem pwsOf_snoc (L : List (Int × Int × Int)) (t : Int × Int × Int) : pwsOf (L ++ [t]) = pwsOf L ++ [t.2.1, t.2.2] := by simp [pwsOf]
theorem psB_app (Q : Int) (a b : List Int) : psB Q (a ++ b) = (psB Q a && psB Q b) := by unfold psB; rw [List.all_append]
theorem psB_take {Q : Int} {L : List (Int × Int × Int)} {k : Nat} (hk : k < L.length) (h : psB Q (pwsOf (L.take k)) = true) (h1 : psB Q [L[k].2.1, L[k].2.2] = true) : psB Q (pwsOf (L.take (k + 1))) = true := by
  rw [List.take_succ_eq_append_getElem hk, pwsOf_snoc, psB_app, h, h1]; rfl
theorem psB_part {Q : Int} {L : List (Int × Int × Int)} {k : Nat} (hk : k < L.length) (h : psB Q [L[k].2.1, L[k].2.2] = false) : psB Q (pwsOf L) = false := by
  have e : L.take k ++ (L[k] :: L.drop (k + 1)) = L := by rw [← List.drop_eq_getElem_cons hk, List.take_append_drop]
  have e2 : pwsOf (L.take k ++ (L[k] :: L.drop (k + 1))) = pwsOf (L.take k) ++ ([L[k].2.1, L[k].2.2] ++ pwsOf (L.drop (k + 1))) := by simp only [pwsOf, List.flatMap_append, List.flatMap_cons]
  rw [e] at e2
  rw [e2, psB_app, psB_app, h]; simp
theorem fsts_get (L : List (Int × Int × Int)) (k : Nat) (hf : k < (fstsOf L).length) (h : k < L.length) : (fstsOf L)[k] = L[k].1 := List.getElem_map ..
def rightB (P G y F k a : Int) : Bool := pw G a P == F * pw y k P % P
end Lw
set_option linter.unusedVariables false
set_option linter.unusedSimpArgs false
namespace Go.Proofs.Ytfidmmgcmfnleaa
open Go.RowKit
set_option maxHeartbeats 2000000 in
theorem talk_powers (P Q G H : Int) (A : Option Addr) (n c : Nat) (ps : List Int) (w : World) (R : Lw.Rd w 1 A n (Lw.intsV .i64 ps)) (hm : n ≤ maxLen) :
    Calls Try.prog 30 #[.agg #[.int .i64 P, .int .i64 Q, .int .i64 G, .int .i64 H], .slice A n c] w fun e w' => e = .returned (.int .i64 (Lw.askE P Q G H ps [])) ∧ Below w.heap.size w w' := by
  unfold maxLen at hm
  have R := Lib.hid R
  have l1 : ps.length = n := by have := R.out.1; simpa [Lw.intsV] using this
  have L1 := Lib.hid l1
  clear l1
  by_cases hg : Lw.groupE P Q G H = 0
  · have HG := Lib.hid hg
    have C := fun (w : World) => group_Check P Q G H w
    rw [hg] at C
    have C := Lib.hid C
    clear hg
    go_enter Try.func30, Try.ntmps30
    go_wp2_with (go_at_call 44; (with_reducible refine (C.out _).mono ?_); rintro e w1 ⟨rfl, hb1⟩; obtain ⟨hc1, hf1⟩ := Lw.bcell hb1; have hz1 := hb1.size; (try simp at hz1); have hy1_00 : w.heap.size < w1.heap.size := (by omega); have hy1_01 : w.heap.size < w1.heap.size + 1 := (by omega); have hy1_02 : w.heap.size < w1.heap.size + 1 + 1 := (by omega))
    go_loopw [7, 8, 9, 17] (fun x y e i wr => ∃ k : Nat, i = .int .i64 (k : Int) ∧ k ≤ n ∧ Hid (((ps.take k).all fun a => decide (0 ≤ a ∧ a < Q)) = true) ∧ Below w1.heap.size w1 wr) (fun _ _ _ i _ => n - (intOf i).toNat)
    case atStart => exact ⟨0, rfl, by omega, rfl, Below.refl _ _⟩
    case round =>
      obtain ⟨k, rfl, k1, T, hBr⟩ := hrel
      obtain ⟨hcr, hfr⟩ := Lw.bcell hBr
      have hszr := hBr.size
      by_cases hlt : k < n
      · have hl : k < ps.length := by have := L1.out; omega
        obtain ⟨ad, rfl, had, hcell⟩ := ((R.out.alloc (.cells #[.int .i64 P, .int .i64 Q, .int .i64 G, .int .i64 H] 23)).below (Nat.le_refl _) hb1).at1 hlt (Lw.intsV_get hl)
        obtain ⟨x, hx⟩ : ∃ x, ps[k] = x := ⟨_, rfl⟩
        rw [hx] at hcell
        have hcell2 := (hBr.cell (p := ad.add k) (by rw [Lw.add_block]; exact had)).trans hcell
        by_cases hr : 0 ≤ x ∧ x < Q
        · have N := Lib.hid (Lw.all_next hl T.out (by rw [hx]; exact decide_eq_true hr))
          have A1 : Hid (Lw.askE P Q G H [x] [] = 0) := by show _ = _; rw [Lw.askE_one HG.out, if_pos hr]
          clear hx hcell hr
          go_wp2_with (go_at_call 45; (with_reducible refine (group_Public_ok P Q G H x _ A1.out).mono ?_); rintro e w2 ⟨rfl, hb2⟩; obtain ⟨hc2, hf2⟩ := Lw.bcell hb2; have hz2 := hb2.size; (try simp at hz2); have hy2_00 : w.heap.size < w2.heap.size := (by omega); have hy2_01 : w.heap.size < w2.heap.size + 1 := (by omega); have hy2_02 : w.heap.size < w2.heap.size + 1 + 1 := (by omega))
          go_roundw
          case rel => exact ⟨k + 1, by go_num, by omega, N, Lw.bt hBr hb2⟩
          case measure => simp [intOf]; omega
        · have E := Lib.hid (Lw.askE_two [] HG.out (Lw.all_no hl (by rw [hx]; exact decide_eq_false hr)))
          have A1 : Hid (Lw.askE P Q G H [x] [] = 2) := by show _ = _; rw [Lw.askE_one HG.out, if_neg hr]
          clear hx hr hcell
          go_wp2_with (go_at_call 45; (with_reducible refine (group_Public_bad P Q G H x 2 _ A1.out rfl).mono ?_); rintro e w2 ⟨rfl, hb2⟩; obtain ⟨hc2, hf2⟩ := Lw.bcell hb2; have hz2 := hb2.size; (try simp at hz2); have hy2_00 : w.heap.size < w2.heap.size := (by omega); have hy2_01 : w.heap.size < w2.heap.size + 1 := (by omega); have hy2_02 : w.heap.size < w2.heap.size + 1 + 1 := (by omega))
          go_ret
          rw [E.out]
          exact ⟨rfl, by (repeat (first | exact Below.refl _ _ | refine Lw.bt ?_ (by assumption) | refine Lw.balloc ?_ _ | refine Lw.bdrewN ?_ _ | refine Below.drew ?_ | refine Lw.bset ?_ (by first | (simp; done) | (simp; omega) | omega) _))⟩
      · have hk : k = ps.length := by have := L1.out; omega
        have PS : Hid (Lw.psB Q ps = true) := by have := T.out; rw [hk] at this; exact Lw.all_upto this
        have E := Lib.hid (Lw.askE_all (ps := ps) HG.out PS.out)
        clear T hk
        go_wp2
        go_ret
        rw [E.out]
        exact ⟨rfl, by (repeat (first | exact Below.refl _ _ | refine Lw.bt ?_ (by assumption) | refine Lw.balloc ?_ _ | refine Lw.bdrewN ?_ _ | refine Below.drew ?_ | refine Lw.bset ?_ (by first | (simp; done) | (simp; omega) | omega) _))⟩
  · have E := Lib.hid (Lw.askE_group ps [] hg)
    have hg1 : (Lw.groupE P Q G H != 0) = true := by simpa using hg
    clear hg
    go_enter Try.func30, Try.ntmps30
    go_wp2_with (go_at_call 44; (with_reducible refine (group_Check _ _ _ _ _).mono ?_); rintro e w1 ⟨rfl, hb1⟩; obtain ⟨hc1, hf1⟩ := Lw.bcell hb1; have hz1 := hb1.size; (try simp at hz1); have hy1_00 : w.heap.size < w1.heap.size := (by omega); have hy1_01 : w.heap.size < w1.heap.size + 1 := (by omega); have hy1_02 : w.heap.size < w1.heap.size + 1 + 1 := (by omega))
    go_ret
    rw [E.out]
    exact ⟨rfl, by (repeat (first | exact Below.refl _ _ | refine Lw.bt ?_ (by assumption) | refine Lw.balloc ?_ _ | refine Lw.bdrewN ?_ _ | refine Below.drew ?_ | refine Lw.bset ?_ (by first | (simp; done) | (simp; omega) | omega) _))⟩
theorem talk_powers' (P Q G H E : Int) (ps : List Int) (hE : Lw.askE P Q G H ps [] = E) (A : Option Addr) (n c : Nat) (w : World) (R : Lw.Rd w 1 A n (Lw.intsV .i64 ps)) (hm : n ≤ maxLen) :
    Calls Try.prog 30 #[.agg #[.int .i64 P, .int .i64 Q, .int .i64 G, .int .i64 H], .slice A n c] w fun e w' => e = .returned (.int .i64 E) ∧ Below w.heap.size w w' := hE ▸ talk_powers P Q G H A n c ps w R hm
set_option maxHeartbeats 1000000 in
set_option maxRecDepth 8192 in
theorem talk_speak (P Q G H a k c : Int) (w : World) (h1 : 3 ≤ P) (h2 : P ≤ 1048576) (h3 : 1 ≤ Q) (h4 : Q ≤ 1048576) (a1 : 0 ≤ a) (a2 : a ≤ 1048576) (k1 : 0 ≤ k) (k2 : k ≤ 1048576) (c1 : 0 ≤ c) (c2 : c ≤ 1048576) :
    Calls Try.prog 32 #[.agg #[.int .i64 P, .int .i64 Q, .int .i64 G, .int .i64 H], .int .i64 a, .int .i64 k, .int .i64 c] w fun e w' => e = .returned (.agg #[.int .i64 (Lw.pw G k P), .int .i64 c, .int .i64 ((k + c * a) % Q)]) ∧ Below w.heap.size w w' := by
  obtain ⟨q1, q2⟩ := Lw.mul_bd' c a 1048576 c1 c2 a1 a2
  have hQ0 : ¬ Q = 0 := by omega
  have W1 : IntKind.i64.wrap (c * a) = c * a := IntWalk.i64_in _ (by omega)
  have W2 : IntKind.i64.wrap (k + c * a) = k + c * a := IntWalk.i64_in _ (by omega)
  have W3 : (k + c * a).tmod Q = (k + c * a) % Q := Int.tmod_eq_emod_of_nonneg (by omega)
  obtain ⟨W, hW⟩ : ∃ W, (w.alloc (.cells #[.int .i64 P, .int .i64 Q, .int .i64 G, .int .i64 H] 23)).alloc (.cells #[.int .i64 0, .int .i64 0, .int .i64 0] 25) = W := ⟨_, rfl⟩
  have B0 : W.heap[w.heap.size]? = some (.cells #[.int .i64 P, .int .i64 Q, .int .i64 G, .int .i64 H] 23 (0, 0)) := by rw [← hW]; exact Lw.blk_alloc (Lw.blk_new _ _ _) _
  have B1 : W.heap[w.heap.size + 1]? = some (.cells #[.int .i64 0, .int .i64 0, .int .i64 0] 25 (0, 0)) := by rw [← hW]; exact Lw.blk_new' (by simp) _ _
  have hB : Below w.heap.size w W := by rw [← hW]; (repeat (first | exact Below.refl _ _ | refine Lw.bt ?_ (by assumption) | refine Lw.balloc ?_ _ | refine Lw.bdrewN ?_ _ | refine Below.drew ?_ | refine Lw.bset ?_ (by first | (simp; done) | (simp; omega) | omega) _))
  have k0 := Lw.blk_cell B0 0; have k1 := Lw.blk_cell B0 1; have k2 := Lw.blk_cell B0 2; have k3 := Lw.blk_cell B0 3
  have l0 := Lw.blk_cell B1 0; have l1 := Lw.blk_cell B1 1; have l2 := Lw.blk_cell B1 2; have fr := fun i => Lw.blk_free B1 i
  simp at k0 k1 k2 k3 l0 l1 l2
  have B0 := Lib.hid B0
  have B1 := Lib.hid B1
  have HW := Lib.hid hW
  clear hW
  go_enter Try.func32, Try.ntmps32
  go_wp2
  rw [HW.out]
  refine wp_region_still_tail 16 (by kernel_rfl) (by kernel_rfl) ?_
  simp only [List.take_succ_cons, List.take_zero, List.drop_succ_cons, List.drop_zero]
  iterate 16 (first | still_step | (refine wpStill_step (fun K hK => ?_); go_simp; refine ⟨_, (power_Of _ _ _ _ (by omega) (by omega) (by omega) (by omega)).mono (fun _ _ h => ⟨h.1, h.2.symm⟩), hK _ ?_⟩; clear hK K))
  refine wpStill_nil ?_
  change wpList _ _ _ _ _ W.drew
  go_wp2
  refine bodyPost_ret (v := .agg #[.int .i64 (Lw.pw G k P), .int .i64 c, .int .i64 ((k + c * a) % Q)]) (by simp [results, Try.results32, go_sem, l0, l1, l2]) rfl ⟨rfl, ?_⟩
  refine Lw.bset (Lw.bset (Lw.bset (Below.drew hB) (by simp) _) (by simp) _) (by simp) _
set_option maxHeartbeats 1000000 in
theorem talk_right (P Q G H y F k a : Int) (w : World) (h1 : 3 ≤ P) (h2 : P ≤ 1048576) (k1 : 0 ≤ k) (k2 : k ≤ 1048576) (a1 : 0 ≤ a) (a2 : a ≤ 1048576) (F1 : 0 ≤ F) (F2 : F ≤ 1048576) :
    Calls Try.prog 26 #[.agg #[.int .i64 P, .int .i64 Q, .int .i64 G, .int .i64 H], .int .i64 y, .agg #[.int .i64 F, .int .i64 k, .int .i64 a]] w fun e w' => e = .returned (.bool (Lw.rightB P G y F k a)) ∧ Below w.heap.size w w' := by
  obtain ⟨z1, z2⟩ := Lw.pw_bd y k P (by omega)
  obtain ⟨q1, q2⟩ := Lw.mul_bd' F (Lw.pw y k P) 1048576 F1 F2 z1 (by omega)
  have E : Hid (Lw.rightB P G y F k a = (Lw.pw G a P == F * Lw.pw y k P % P)) := rfl
  have hP0 : ¬ P = 0 := by omega
  have W1 : IntKind.i64.wrap (F * Lw.pw y k P) = F * Lw.pw y k P := IntWalk.i64_in _ (by omega)
  have W2 : (F * Lw.pw y k P).tmod P = F * Lw.pw y k P % P := Int.tmod_eq_emod_of_nonneg q1
  obtain ⟨W, hW⟩ : ∃ W, (w.alloc (.cells #[.int .i64 P, .int .i64 Q, .int .i64 G, .int .i64 H] 23)).alloc (.cells #[.int .i64 F, .int .i64 k, .int .i64 a] 25) = W := ⟨_, rfl⟩
  have B0 : W.heap[w.heap.size]? = some (.cells #[.int .i64 P, .int .i64 Q, .int .i64 G, .int .i64 H] 23 (0, 0)) := by rw [← hW]; exact Lw.blk_alloc (Lw.blk_new _ _ _) _
  have B1 : W.heap[w.heap.size + 1]? = some (.cells #[.int .i64 F, .int .i64 k, .int .i64 a] 25 (0, 0)) := by rw [← hW]; exact Lw.blk_new' (by simp) _ _
  have hB : Below w.heap.size w W := by rw [← hW]; (repeat (first | exact Below.refl _ _ | refine Lw.bt ?_ (by assumption) | refine Lw.balloc ?_ _ | refine Lw.bdrewN ?_ _ | refine Below.drew ?_ | refine Lw.bset ?_ (by first | (simp; done) | (simp; omega) | omega) _))
  have k0 := Lw.blk_cell B0 0; have k1 := Lw.blk_cell B0 1; have k2 := Lw.blk_cell B0 2; have k3 := Lw.blk_cell B0 3
  have l0 := Lw.blk_cell B1 0; have l1 := Lw.blk_cell B1 1; have l2 := Lw.blk_cell B1 2
  simp at k0 k1 k2 k3 l0 l1 l2
  have HW := Lib.hid hW
  clear hW B0 B1
  go_enter Try.func26, Try.ntmps26
  go_wp2
  rw [HW.out]
  go_quiet ((go_at_call 25; exact Lw.quiet (power_Of _ _ _ _ (by omega) (by omega) (by omega) (by omega))))
  go_wp2
  go_ret
  rw [E.out]
  exact ⟨rfl, Lw.bdrewN hB _⟩

set_option maxHeartbeats 1000000 in
theorem ref_Right (P Q G H y F k a : Int) (w : World) (h1 : 3 ≤ P) (h2 : P ≤ 1048576) (k1 : 0 ≤ k) (k2 : k ≤ 1048576) (a1 : 0 ≤ a) (a2 : a ≤ 1048576) (F1 : 0 ≤ F) (F2 : F ≤ 1048576) :
    Calls Try.prog 12 #[.agg #[.int .i64 P, .int .i64 Q, .int .i64 G, .int .i64 H], .int .i64 y, .agg #[.int .i64 F, .int .i64 k, .int .i64 a]] w fun e w' => e = .returned (.bool (Lw.rightB P G y F k a)) ∧ Below w.heap.size w w' := by
  obtain ⟨z1, z2⟩ := Lw.pw_bd y k P (by omega)
  obtain ⟨q1, q2⟩ := Lw.mul_bd' F (Lw.pw y k P) 1048576 F1 F2 z1 (by omega)
  have E : Hid (Lw.rightB P G y F k a = (Lw.pw G a P == F * Lw.pw y k P % P)) := rfl
  have hP0 : ¬ P = 0 := by omega
  have W1 : IntKind.i64.wrap (F * Lw.pw y k P) = F * Lw.pw y k P := IntWalk.i64_in _ (by omega)
  have W2 : (F * Lw.pw y k P).tmod P = F * Lw.pw y k P % P := Int.tmod_eq_emod_of_nonneg q1
  obtain ⟨W, hW⟩ : ∃ W, (w.alloc (.cells #[.int .i64 P, .int .i64 Q, .int .i64 G, .int .i64 H] 23)).alloc (.cells #[.int .i64 F, .int .i64 k, .int .i64 a] 25) = W := ⟨_, rfl⟩
  have B0 : W.heap[w.heap.size]? = some (.cells #[.int .i64 P, .int .i64 Q, .int .i64 G, .int .i64 H] 23 (0, 0)) := by rw [← hW]; exact Lw.blk_alloc (Lw.blk_new _ _ _) _
  have B1 : W.heap[w.heap.size + 1]? = some (.cells #[.int .i64 F, .int .i64 k, .int .i64 a] 25 (0, 0)) := by rw [← hW]; exact Lw.blk_new' (by simp) _ _
  have hB : Below w.heap.size w W := by rw [← hW]; (repeat (first | exact Below.refl _ _ | refine Lw.bt ?_ (by assumption) | refine Lw.balloc ?_ _ | refine Lw.bdrewN ?_ _ | refine Below.drew ?_ | refine Lw.bset ?_ (by first | (simp; done) | (simp; omega) | omega) _))
  have k0 := Lw.blk_cell B0 0; have k1 := Lw.blk_cell B0 1; have k2 := Lw.blk_cell B0 2; have k3 := Lw.blk_cell B0 3
  have l0 := Lw.blk_cell B1 0; have l1 := Lw.blk_cell B1 1; have l2 := Lw.blk_cell B1 2
  simp at k0 k1 k2 k3 l0 l1 l2
  have HW := Lib.hid hW
  clear hW B0 B1
  go_enter Try.func12, Try.ntmps12
  go_wp2
  rw [HW.out]
  go_quiet ((go_at_call 14; exact Lw.quiet (ref_Pow _ _ _ _ _ (Nat.le_refl _) (by omega) (by omega) (by omega) (by omega))))
  go_wp2
  go_ret
  rw [E.out]
  exact ⟨rfl, Lw.bdrewN hB _⟩

set_option maxHeartbeats 4000000 in
theorem talk_said (P Q G H y : Int) (A : Option Addr) (n c : Nat) (L : List (Int × Int × Int)) (w : World) (R : Lw.Rd w 3 A n (Lw.tripsV L)) (hm : n ≤ maxLen) (h0 : 1 ≤ n) :
    Calls Try.prog 24 #[.agg #[.int .i64 P, .int .i64 Q, .int .i64 G, .int .i64 H], .int .i64 y, .slice A n c] w fun e w' => e = .returned (.int .i64 (Lw.askE P Q G H (Lw.pwsOf L) (y :: Lw.fstsOf L))) ∧ Below w.heap.size w w' := by
  unfold maxLen at hm
  have R := Lib.hid (R.alloc (.cells #[.int .i64 P, .int .i64 Q, .int .i64 G, .int .i64 H] 23))
  have l1 : L.length = n := by have := R.out.1; rw [Lw.tripsV_length] at this; omega
  have L1 := Lib.hid l1
  clear l1
  by_cases hg : Lw.groupE P Q G H = 0
  · obtain ⟨h1, h2, h3, h4, _⟩ := Lw.grp_facts hg
    have HG := Lib.hid hg
    clear hg
    obtain ⟨W, hW⟩ : ∃ W, w.alloc (.cells #[.int .i64 P, .int .i64 Q, .int .i64 G, .int .i64 H] 23) = W := ⟨_, rfl⟩
    have B0 : W.heap[w.heap.size]? = some (.cells #[.int .i64 P, .int .i64 Q, .int .i64 G, .int .i64 H] 23 (0, 0)) := by rw [← hW]; exact Lw.blk_new _ _ _
    have hB : Below w.heap.size w W := by rw [← hW]; (repeat (first | exact Below.refl _ _ | refine Lw.bt ?_ (by assumption) | refine Lw.balloc ?_ _ | refine Lw.bdrewN ?_ _ | refine Below.drew ?_ | refine Lw.bset ?_ (by first | (simp; done) | (simp; omega) | omega) _))
    have hsz : w.heap.size < W.heap.size := by rw [← hW]; simp
    rw [hW] at R
    have B0 := Lib.hid B0
    have HW := Lib.hid hW
    clear hW
    go_enter Try.func24, Try.ntmps24
    go_wp2
    rw [HW.out]
    go_loopw [9, 14] (fun e i wr => ∃ k : Nat, i = .int .i64 (k : Int) ∧ k ≤ n ∧ Hid (Lw.psB Q (Lw.pwsOf (L.take k)) = true) ∧ Below W.heap.size W wr) (fun _ i _ => n - (intOf i).toNat)
    case atStart => exact ⟨0, rfl, by omega, rfl, Below.refl _ _⟩
    case round =>
      obtain ⟨k, rfl, k1, T, hBr⟩ := hrel
      have hszr := hBr.size
      have Br := Lib.hid ((hBr.block w.heap.size hsz).trans B0.out)
      have c0 := Lw.blk_cell Br.out 0; have c1 := Lw.blk_cell Br.out 1; have c2 := Lw.blk_cell Br.out 2; have c3 := Lw.blk_cell Br.out 3
      simp at c0 c1 c2 c3
      have hlr : w.heap.size < wr.heap.size := by omega
      by_cases hlt : k < n
      · have hl : k < L.length := by have := L1.out; omega
        obtain ⟨t0, t1, t2⟩ := Lw.tripsV_get hl
        obtain ⟨x, hx⟩ : ∃ x, L[k] = x := ⟨_, rfl⟩
        rw [hx] at t0 t1 t2
        obtain ⟨ad, rfl, had, d0, d1, d2⟩ := (R.out.below (Nat.le_refl _) hBr).at3 hlt t0 t1 t2
        by_cases hp : Lw.psB Q [x.2.1, x.2.2] = true
        · have N := Lib.hid (Lw.psB_take hl T.out (by rw [hx]; exact hp))
          have A1 := Lib.hid (Lw.askE_all (ps := [x.2.1, x.2.2]) HG.out hp)
          clear hp hx t0 t1 t2
          go_wp2_with (go_at_call 30; refine (talk_powers' P Q G H _ _ A1.out _ _ _ _ (by first | exact Lw.Rd.nil _ _ _ | exact Lw.Rd.lit (Lw.blk_new' (by simp) _ _) rfl rfl | exact Lw.Rd.lit (Lw.blk_alloc (Lw.blk_new' (by simp) _ _) _) rfl rfl) (Lw.max_of (by omega))).mono ?_; rintro e w2 ⟨rfl, hb2⟩)
          go_roundw
          case rel => exact ⟨k + 1, by go_num, by omega, N, Lw.bt ((hBr.alloc hBr.size _).alloc (by simp; omega) _) hb2⟩
          case measure => simp [intOf]; omega
        · have hpf : Lw.psB Q [x.2.1, x.2.2] = false := by simpa using hp
          have E := Lib.hid (Lw.askE_two (y :: Lw.fstsOf L) HG.out (Lw.psB_part hl (by rw [hx]; exact hpf)))
          have A1 := Lib.hid (Lw.askE_two (ps := [x.2.1, x.2.2]) [] HG.out hpf)
          clear hp hpf hx t0 t1 t2
          go_wp2_with (go_at_call 30; refine (talk_powers' P Q G H _ _ A1.out _ _ _ _ (by first | exact Lw.Rd.nil _ _ _ | exact Lw.Rd.lit (Lw.blk_new' (by simp) _ _) rfl rfl | exact Lw.Rd.lit (Lw.blk_alloc (Lw.blk_new' (by simp) _ _) _) rfl rfl) (Lw.max_of (by omega))).mono ?_; rintro e w2 ⟨rfl, hb2⟩)
          go_ret
          rw [E.out]
          exact ⟨rfl, Lw.bt (Lw.bt hB ((hBr.alloc hBr.size _).alloc (by simp; omega) _)) hb2⟩
      · have hk : k = L.length := by have := L1.out; omega
        have PS : Hid (Lw.psB Q (Lw.pwsOf L) = true) := by have := T.out; rwa [hk, List.take_length] at this
        clear T hk
        by_cases hy : Lw.memB P Q y = true
        · go_wp2_with (go_at_call 41; (with_reducible refine (group_Member P Q G H y _ (by omega) (by omega) (by omega) (by omega)).mono ?_); rintro e w3 ⟨rfl, hb3⟩)
          have Bs := Lib.hid ((hb3.block w.heap.size (by omega)).trans Br.out)
          have hB3 : Below W.heap.size W w3 := Lw.bt hBr hb3
          clear hb3 c0 c1 c2 c3 Br
          go_loopw [35] (fun i wr => ∃ k : Nat, i = .int .i64 (k : Int) ∧ k ≤ n ∧ Hid (Lw.msB P Q (Lw.fstsOf (L.take k)) = true) ∧ Below W.heap.size W wr) (fun i _ => n - (intOf i).toNat)
          case atStart => exact ⟨0, rfl, by omega, rfl, hB3⟩
          case round =>
            obtain ⟨k, rfl, k1, T, hBr⟩ := hrel
            have hszr := hBr.size
            have Br := Lib.hid ((hBr.block w.heap.size hsz).trans B0.out)
            have c0 := Lw.blk_cell Br.out 0; have c1 := Lw.blk_cell Br.out 1; have c2 := Lw.blk_cell Br.out 2; have c3 := Lw.blk_cell Br.out 3
            simp at c0 c1 c2 c3
            have hlr : w.heap.size < wr.heap.size := by omega
            by_cases hlt : k < n
            · have hl : k < L.length := by have := L1.out; omega
              have hlf : k < (Lw.fstsOf L).length := by unfold Lw.fstsOf; simpa using hl
              obtain ⟨t0, t1, t2⟩ := Lw.tripsV_get hl
              obtain ⟨x, hx⟩ : ∃ x, L[k] = x := ⟨_, rfl⟩
              have hxf : (Lw.fstsOf L)[k] = x.1 := by rw [Lw.fsts_get L k hlf hl, hx]
              rw [hx] at t0 t1 t2
              obtain ⟨ad, rfl, had, d0, d1, d2⟩ := (R.out.below (Nat.le_refl _) hBr).at3 hlt t0 t1 t2
              by_cases hp : Lw.memB P Q x.1 = true
              · have N : Hid (Lw.msB P Q (Lw.fstsOf (L.take (k + 1))) = true) := by
                  have h := Lw.all_next (f := fun x => Lw.memB P Q x) (l := Lw.fstsOf L) hlf (by have := T.out; unfold Lw.msB Lw.fstsOf at this; unfold Lw.fstsOf; rw [← List.map_take]; exact this) (by rw [hxf]; exact hp)
                  show _ = _
                  unfold Lw.msB; unfold Lw.fstsOf at h ⊢; rw [List.map_take]; exact h
                clear hx t0 t1 t2 hxf
                go_wp2_with (go_at_call 41; (with_reducible refine (group_Member P Q G H _ _ (by omega) (by omega) (by omega) (by omega)).mono ?_); rintro e w4 ⟨rfl, hb4⟩)
                go_roundw
                case rel => exact ⟨k + 1, by go_num, by omega, N, Lw.bt (hBr.alloc hBr.size _) hb4⟩
                case measure => simp [intOf]; omega
              · have hpf : Lw.memB P Q x.1 = false := by simpa using hp
                have E := Lib.hid (Lw.askE_four HG.out PS.out (show Lw.msB P Q (y :: Lw.fstsOf L) = false by
                  unfold Lw.msB; rw [List.all_cons, Lw.all_no (f := fun x => Lw.memB P Q x) hlf (by rw [hxf]; exact hpf)]; simp))
                clear hp hx t0 t1 t2 hxf
                go_wp2_with (go_at_call 41; (with_reducible refine (group_Member P Q G H _ _ (by omega) (by omega) (by omega) (by omega)).mono ?_); rintro e w4 ⟨rfl, hb4⟩)
                go_ret
                rw [E.out]
                exact ⟨rfl, Lw.bt (Lw.bt hB (hBr.alloc hBr.size _)) hb4⟩
            · have hk : k = L.length := by have := L1.out; omega
              have E := Lib.hid (Lw.askE_zero HG.out PS.out (show Lw.msB P Q (y :: Lw.fstsOf L) = true by
                have := T.out; rw [hk, List.take_length] at this; unfold Lw.msB at this ⊢; rw [List.all_cons, this, hy]; rfl))
              clear T hk
              go_wp2
              go_ret
              rw [E.out]
              exact ⟨rfl, Lw.bt hB hBr⟩
        · have hyf : Lw.memB P Q y = false := by simpa using hy
          have E := Lib.hid (Lw.askE_four HG.out PS.out (show Lw.msB P Q (y :: Lw.fstsOf L) = false by unfold Lw.msB; rw [List.all_cons, hyf]; simp))
          clear hy
          go_wp2_with (go_at_call 41; (with_reducible refine (group_Member P Q G H y _ (by omega) (by omega) (by omega) (by omega)).mono ?_); rintro e w3 ⟨rfl, hb3⟩)
          go_ret
          rw [E.out]
          exact ⟨rfl, Lw.bt (Lw.bt hB hBr) hb3⟩
  · have E := Lib.hid (Lw.askE_group (Lw.pwsOf L) (y :: Lw.fstsOf L) hg)
    have hg1 : (Lw.groupE P Q G H != 0) = true := by simpa using hg
    have hl0 : 0 < L.length := by have := L1.out; omega
    obtain ⟨t0, t1, t2⟩ := Lw.tripsV_get (zs := L) (i := 0) hl0
    obtain ⟨x, hx⟩ : ∃ x, L[0] = x := ⟨_, rfl⟩
    rw [hx] at t0 t1 t2
    obtain ⟨ad, rfl, had, d0, d1, d2⟩ := R.out.at3 (k := 0) (by omega) t0 t1 t2
    simp only [Nat.zero_mul, Lw.add_zero'] at d0 d1 d2
    have A1 := Lib.hid (Lw.askE_group [x.2.1, x.2.2] [] hg)
    have hn0 : 0 < n := by omega
    clear hg t0 t1 t2 hx
    go_enter Try.func24, Try.ntmps24
    go_wp2
    refine wp_loop_rounds 1 ?_
    rw [rounds_succ]
    go_wp2_with (go_at_call 30; refine (talk_powers' P Q G H _ _ A1.out _ _ _ _ (by first | exact Lw.Rd.nil _ _ _ | exact Lw.Rd.lit (Lw.blk_new' (by simp) _ _) rfl rfl | exact Lw.Rd.lit (Lw.blk_alloc (Lw.blk_new' (by simp) _ _) _) rfl rfl) (Lw.max_of (by omega))).mono ?_; rintro e w2 ⟨rfl, hb2⟩)
    go_ret
    rw [E.out]
    exact ⟨rfl, by (repeat (first | exact Below.refl _ _ | refine Lw.bt ?_ (by assumption) | refine Lw.balloc ?_ _ | refine Lw.bdrewN ?_ _ | refine Below.drew ?_ | refine Lw.bset ?_ (by first | (simp; done) | (simp; omega) | omega) _))⟩
theorem talk_said' (P Q G H y E : Int) (L : List (Int × Int × Int)) (hE : Lw.askE P Q G H (Lw.pwsOf L) (y :: Lw.fstsOf L) = E) (A : Option Addr) (n c : Nat) (w : World) (R : Lw.Rd w 3 A n (Lw.tripsV L)) (hm : n ≤ maxLen) (h0 : 1 ≤ n) :
    Calls Try.prog 24 #[.agg #[.int .i64 P, .int .i64 Q, .int .i64 G, .int .i64 H], .int .i64 y, .slice A n c] w fun e w' => e = .returned (.int .i64 E) ∧ Below w.heap.size w w' := hE ▸ talk_said P Q G H y A n c L w R hm h0
end Go.Proofs.Ytfidmmgcmfnleaa
