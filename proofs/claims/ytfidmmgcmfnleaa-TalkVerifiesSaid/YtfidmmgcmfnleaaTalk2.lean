/- Contracts of talk.Check and of the statements' helper saidCheck. -/
import Derived.Test.YtfidmmgcmfnleaaTalk
import Derived.Test.YtfidmmgcmfnleaaSl2
namespace Lw
/-- a talk's facts -/
theorem said_facts {P Q G H y F k a : Int} (h : askE P Q G H (pwsOf [(F, k, a)]) (y :: fstsOf [(F, k, a)]) = 0) :
    groupE P Q G H = 0 ∧ 0 ≤ k ∧ k < Q ∧ 0 ≤ a ∧ a < Q ∧ memB P Q y = true ∧ memB P Q F = true := by
  obtain ⟨e1, e2, e3⟩ := askE_ok h
  obtain ⟨k1, k2, e4⟩ := psB_cons (ps := [a]) e2
  obtain ⟨a1, a2, _⟩ := psB_cons e4
  obtain ⟨m1, e5⟩ := msB_cons (ms := [F]) e3
  obtain ⟨m2, _⟩ := msB_cons e5
  exact ⟨e1, k1, k2, a1, a2, m1, m2⟩
theorem infoI64_app (L : List (Int × Int × Int)) (k : Nat) (h : k < L.length) : intsV .i64 (pwsOf (L.take (k + 1))) = intsV .i64 (pwsOf (L.take k)) ++ [.int .i64 L[k].2.1, .int .i64 L[k].2.2] := by
  rw [List.take_succ_eq_append_getElem h, pwsOf_snoc]; simp [intsV]
theorem fsts_app (y : Int) (L : List (Int × Int × Int)) (k : Nat) (h : k < L.length) : intsV .i64 (y :: fstsOf (L.take (k + 1))) = intsV .i64 (y :: fstsOf (L.take k)) ++ [.int .i64 L[k].1] := by
  rw [List.take_succ_eq_append_getElem h]
  simp only [intsV, fstsOf, List.map_append, List.map_cons, List.map_nil, List.cons_append]
theorem pwsOf_len (L : List (Int × Int × Int)) : (pwsOf L).length = 2 * L.length := by
  induction L with
  | nil => rfl
  | cons x L ih => simp only [pwsOf, List.flatMap_cons, List.length_append, List.length_cons, List.length_nil] at *; omega
theorem fstsOf_len (L : List (Int × Int × Int)) : (fstsOf L).length = L.length := by simp [fstsOf]
end Lw
set_option linter.unusedVariables false
set_option linter.unusedSimpArgs false
namespace Go.Proofs.Ytfidmmgcmfnleaa
open Go.RowKit
theorem infoInt64 : (Try.prog.info? 2).map (fun i => (i.zero, i.size, i.bytes)) = some (some (.int .i64 0), 1, 8) := by kernel_rfl
set_option maxHeartbeats 2000000 in
theorem law_saidCheck (P Q G H y : Int) (A : Option Addr) (n c : Nat) (L : List (Int × Int × Int)) (w : World) (R : Lw.Rd w 3 A n (Lw.tripsV L)) (hm : n ≤ 1048576) :
    Calls Try.prog 10 #[.agg #[.int .i64 P, .int .i64 Q, .int .i64 G, .int .i64 H], .int .i64 y, .slice A n c] w fun e w' => e = .returned (.int .i64 (Lw.askE P Q G H (Lw.pwsOf L) (y :: Lw.fstsOf L))) ∧ Below w.heap.size w w' := by
  obtain ⟨i0, hi, hz0, hz1, hz2⟩ := info_parts infoInt64
  have l1 : L.length = n := by have := R.1; rw [Lw.tripsV_length] at this; omega
  have L1 := Lib.hid l1
  clear l1
  obtain ⟨W, hW⟩ : ∃ W, (w.alloc (.cells #[.int .i64 P, .int .i64 Q, .int .i64 G, .int .i64 H] 23)).alloc (.cells #[.int .i64 y] 2) = W := ⟨_, rfl⟩
  have B0 : W.heap[w.heap.size]? = some (.cells #[.int .i64 P, .int .i64 Q, .int .i64 G, .int .i64 H] 23 (0, 0)) := by rw [← hW]; exact Lw.blk_alloc (Lw.blk_new _ _ _) _
  have own0 : W.ownsRow (w.heap.size + 1) 2 1 (.slice (some ⟨w.heap.size + 1, 0, none⟩) 1 1) 1 (Lw.intsV .i64 (y :: Lw.fstsOf (L.take 0))) := by
    have h := World.ownsRow_lit (base := w.heap.size + 1) (e := 2) (size := 1) (w.alloc (.cells #[.int .i64 P, .int .i64 Q, .int .i64 G, .int .i64 H] 23)) #[.int .i64 y] 1 (by simp) (Lw.max_of (by omega)) rfl
    rw [World.size_alloc] at h
    rw [← hW]; exact h
  have hB : Below w.heap.size w W := by rw [← hW]; (repeat (first | exact Below.refl _ _ | refine Lw.bt ?_ (by assumption) | refine Lw.balloc ?_ _ | refine Lw.bdrewN ?_ _ | refine Below.drew ?_ | refine Lw.bset ?_ (by first | (simp; done) | (simp; omega) | omega) _))
  have hsz : w.heap.size < W.heap.size := by rw [← hW]; simp; omega
  have R0 := Lib.hid R
  have B0 := Lib.hid B0
  have HW := Lib.hid hW
  have O0 := Lib.hid own0
  clear hW own0
  go_enter Try.func10, Try.ntmps10
  go_wp2
  rw [HW.out]
  go_loopw [7, 8, 15] (fun p m i wr => ∃ k : Nat, i = .int .i64 (k : Int) ∧ k ≤ n ∧ wr.ownsRow (w.heap.size + 1) 2 1 p (2 * k) (Lw.intsV .i64 (Lw.pwsOf (L.take k))) ∧ wr.ownsRow (w.heap.size + 1) 2 1 m (k + 1) (Lw.intsV .i64 (y :: Lw.fstsOf (L.take k))) ∧ p.ownBlock ≠ m.ownBlock ∧ wr.heap[w.heap.size]? = some (.cells #[.int .i64 P, .int .i64 Q, .int .i64 G, .int .i64 H] 23 (0, 0)) ∧ Below w.heap.size w wr) (fun _ _ i _ => n - (intOf i).toNat)
  case atStart => exact ⟨0, rfl, by omega, World.ownsRow_nil _ _ _ _, O0.out, by simp [Value.ownBlock], B0.out, hB⟩
  case round =>
    obtain ⟨k, rfl, k1, op, om, hne, Br, hBr⟩ := hrel
    have hszr := hBr.size
    have hlr : w.heap.size < wr.heap.size := Lw.blk_lt Br
    by_cases hlt : k < n
    · have hl : k < L.length := by have := L1.out; omega
      obtain ⟨t0, t1, t2⟩ := Lw.tripsV_get hl
      obtain ⟨x, hx⟩ : ∃ x, L[k] = x := ⟨_, rfl⟩
      rw [hx] at t0 t1 t2
      obtain ⟨ad, rfl, had, d0, d1, d2⟩ := (R0.out.below (Nat.le_refl _) hBr).at3 hlt t0 t1 t2
      have A1 := Lib.hid (Lw.infoI64_app L k hl)
      have A2 := Lib.hid (Lw.fsts_app y L k hl)
      rw [hx] at A1 A2
      have OP := Lib.hid op; have OM := Lib.hid om; have NE := Lib.hid hne; have BR := Lib.hid Br
      clear op om hne Br hx t0 t1 t2
      have hB2 : Below wr.heap.size wr ((wr.alloc (.cells #[.int .i64 x.1, .int .i64 x.2.1, .int .i64 x.2.2] 25)).alloc (.cells #[.int .i64 x.2.1, .int .i64 x.2.2] 2)) := ((Below.refl _ _).alloc (Nat.le_refl _) _).alloc (by simp) _
      go_wp2_with (first | (at_builtin; refine wpList_append_own_at _ rfl (.tmp 19) (.tmp 24) 41 rfl (w.heap.size + 1) 2 i0 _ 1 8 Try.underlying41 hi hz0 hz1 hz2 rfl (by decide) _ _ _ rfl ((OP.out.alloc _).alloc _) ⟨wr.heap.size + 1, 0, none⟩ 2 2 [.int .i64 x.2.1, .int .i64 x.2.2] rfl rfl (Lw.cells_new' (by simp) _ _) (Lw.one2 _ _ _ _) (Lw.max_of (by omega)) (by omega) (by simp; omega) ?_; intro p' w3 op' hg3 _ hat3; obtain ⟨m3, ne3, Br3, B3, bl3, sz3⟩ := Lw.app_two hBr hB2 (by omega) OP.out OM.out NE.out hg3 hat3 BR.out; have hbx := (bl3 wr.heap.size (Nat.le_refl _) (by simp; omega)).trans (Lw.blk_alloc (Lw.blk_new _ _ _) _); have g0 := Lw.blk_cell hbx 0; simp at g0 sz3; have S3 := Lib.hid (And.intro op' (And.intro m3 (And.intro ne3 (And.intro Br3 (And.intro B3 hbx))))); clear op' hg3 hat3 m3 ne3 Br3 B3 bl3 hbx) | (at_builtin; refine wpList_append_own_at _ rfl (.tmp 26) (.tmp 29) 41 rfl (w.heap.size + 1) 2 i0 _ 1 8 Try.underlying41 hi hz0 hz1 hz2 rfl (by decide) _ _ _ rfl (S3.out.2.1.alloc _) ⟨w3.heap.size, 0, none⟩ 1 1 [.int .i64 x.1] rfl rfl (Lw.cells_new _ _ _) (Lw.one1 _ _) (Lw.max_of (by omega)) (by omega) (by simp; omega) ?_; intro m' w4 om' hg4 _ hat4; obtain ⟨p4, ne4, Br4, B4, _, _⟩ := Lw.app_two S3.out.2.2.2.2.1 ((Below.refl w3.heap.size w3).alloc (Nat.le_refl _) (.cells #[.int .i64 x.1] 2)) (by omega) S3.out.2.1 S3.out.1 (Ne.symm S3.out.2.2.1) hg4 hat4 S3.out.2.2.2.1; have S4 := Lib.hid (And.intro om' (And.intro p4 (And.intro (Ne.symm ne4) (And.intro Br4 B4)))); clear om' hg4 hat4 p4 ne4 Br4 B4))
      go_roundw
      case rel =>
        obtain ⟨f1, f2, f3, f4, f5⟩ := S4.out
        exact ⟨k + 1, by go_num, by omega, by rw [A1.out, show 2 * (k + 1) = 2 * k + 2 by omega]; exact f2, by rw [A2.out]; exact f1, f3, f4, f5⟩
      case measure => simp [intOf]; omega
    · have hk : k = n := by omega
      have T : Hid (L.take k = L) := by show _ = _; rw [hk, ← L1.out, List.take_length]
      rw [T.out] at op om
      obtain ⟨A1, c1, rfl, a1, a2, _⟩ := Lw.ownsForm op
      obtain ⟨A2, c2, rfl, a3, a4, _⟩ := Lw.ownsForm om
      have R1 := Lib.hid (Lw.Rd.of_own op)
      have R2 := Lib.hid (Lw.Rd.of_own om)
      have c0 := Lw.blk_cell Br 0; have c1 := Lw.blk_cell Br 1; have c2 := Lw.blk_cell Br 2; have c3 := Lw.blk_cell Br 3
      simp at c0 c1 c2 c3
      clear op om hne Br hk
      go_wp2_with (go_at_call 16; refine (ref_GroupAsk P Q G H _ _ _ _ _ _ _ _ _ R1.out R2.out (Lw.max_of (by omega)) (Lw.max_of (by omega))).mono ?_; rintro e w5 ⟨rfl, hb5⟩)
      go_ret
      exact ⟨rfl, Lw.bt hBr hb5⟩
end Go.Proofs.Ytfidmmgcmfnleaa
