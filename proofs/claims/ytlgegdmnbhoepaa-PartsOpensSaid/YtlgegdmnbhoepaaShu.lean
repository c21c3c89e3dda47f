/- share.Join walked: the value at 0 of what goes through the points. -/
import Derived.Test.YtlgegdmnbhoepaaShj
import Derived.Test.YtlgegdmnbhoepaaPtr
import Derived.Test.YtlgegdmnbhoepaaPlv
import Derived.Test.YtlgegdmnbhoepaaPad
set_option linter.unusedVariables false
set_option linter.unusedSimpArgs false
namespace Go.Proofs.Ytlgegdmnbhoepaa
open Go.RowKit
set_option maxHeartbeats 1000000 in
theorem zero_idx (A : Option Addr) (n c : Nat) (L : List Lw.PtT) (w : World) (R : Lw.Rd w 2 A n (Lw.pairsV .i64 .i64 L)) (hn : n ≤ 1048576) :
    Calls Try.prog 171 #[.slice A n c, .func (.func 130) #[] #[]] w fun e w' => ∃ r : Int, e = .returned (.int .i64 r) ∧ Below w.heap.size w w' ∧ ((Lw.zeroX L = false ∧ r = -1) ∨ (Lw.zeroX L = true ∧ 0 ≤ r)) := by
  have l1 := Lw.pairsV_len R
  have R := Lib.hid R
  have LL := Lib.hid l1
  clear l1
  go_enter Try.func171, Try.ntmps171
  go_wp2
  go_loopw [5, 8] (fun x i wr => ∃ k : Nat, i = .int .i64 (k : Int) ∧ k ≤ n ∧ Hid (Lw.zeroX (L.take k) = false) ∧ Below w.heap.size w wr) (fun _ i _ => n - (intOf i).toNat)
  case atStart => exact ⟨0, rfl, by omega, rfl, Below.refl _ _⟩
  case round =>
    obtain ⟨k, rfl, k1, T, hB⟩ := hrel
    by_cases hlt : k < n
    · have hl : k < L.length := by rw [LL.out]; exact hlt
      obtain ⟨g0, g1⟩ := Lw.pairsV_get (k := .i64) (l := .i64) hl
      obtain ⟨ad, rfl, had, d0, d1⟩ := (R.out.below (Nat.le_refl _) hB).at2 hlt g0 g1
      have N := Lib.hid (Lw.any_take (p := fun r : Lw.PtT => decide (r.1 = 0)) hl T.out)
      have D := Lib.hid (Lw.any_at (p := fun r : Lw.PtT => decide (r.1 = 0)) hl)
      obtain ⟨⟨x, y⟩, hx⟩ : ∃ x, L[k] = x := ⟨_, rfl⟩
      rw [hx] at d0 d1 N D
      simp only at d0 d1
      clear hx
      by_cases h0 : x = 0
      · have D1 : Hid (Lw.zeroX L = true) := D.out (by simpa using h0)
        have z0 : (x == 0) = true := by simpa using h0
        clear N D h0
        go_wp2
        go_ret
        exact ⟨_, rfl, Lw.balloc hB _, .inr ⟨D1.out, by omega⟩⟩
      · have N1 : Hid (Lw.zeroX (L.take (k + 1)) = false) := N.out (by simpa using h0)
        have z0 : (x == 0) = false := by simpa using h0
        clear N D h0
        go_wp2
        go_roundw
        case rel => exact ⟨k + 1, by go_num, by omega, N1, Lw.balloc hB _⟩
        case measure => simp [intOf]; omega
    · have hk : L.take k = L := List.take_of_length_le (by rw [LL.out]; omega)
      have E : Hid (Lw.zeroX L = false) := by have := T.out; rwa [hk] at this
      clear hk
      go_wp2
      go_ret
      exact ⟨_, rfl, hB, .inl ⟨E.out, rfl⟩⟩
theorem zero_con (A : Option Addr) (n c : Nat) (L : List Lw.PtT) (w : World) (R : Lw.Rd w 2 A n (Lw.pairsV .i64 .i64 L)) (hn : n ≤ 1048576) :
    Calls Try.prog 129 #[.slice A n c, .func (.func 130) #[] #[]] w fun e w' => e = .returned (.bool (Lw.zeroX L)) ∧ Below w.heap.size w w' := by
  have X := Lib.hid (zero_idx A n c L w R hn)
  clear R
  go_enter Try.func129, Try.ntmps129
  go_wp2_with (go_at_call 171; (with_reducible refine (X.out).mono ?_); rintro e w1 ⟨r, rfl, hb, hr⟩)
  go_ret
  exact ⟨Lw.ret_bool (Lw.IdxT.ge hr), hb⟩
theorem share_Join (p : Int) (A : Option Addr) (n c : Nat) (L : List Lw.PtT) (w : World) (R : Lw.Rd w 2 A n (Lw.pairsV .i64 .i64 L)) (hw : ∀ r ∈ L, (Lit.int .i64 r.1).wf = true) :
    Calls Try.prog 81 #[.int .i64 p, .slice A n c] w fun e w' => (Lw.joinE p L = 0 → e = .returned (.tuple #[.int .i64 (Lw.hornV p (Lw.nst p L L.length).1 0), .int .i64 0])) ∧ (¬ Lw.joinE p L = 0 → e = .returned (.tuple #[.int .i64 0, .int .i64 (Lw.joinE p L)])) ∧ Below w.heap.size w w' := by
  by_cases h0 : Lw.ptsE p L = 0
  · obtain ⟨hp, h13, hL⟩ := Lw.pts_ok h0
    obtain ⟨p1, p2, pp⟩ := Lw.ppr_ok hp
    have lL := Lw.pairsV_len R
    have X := Lib.hid (poly_Through_ok p A n c L w R hw h0)
    have ZC := Lib.hid (fun W (hb : Below w.heap.size w W) => zero_con A n c L W (R.below (Nat.le_refl _) hb) (by omega))
    obtain ⟨zb, _, zl, _⟩ := Lw.new_all p1 p2 pp hL L.length (Nat.le_refl _)
    have PV := Lib.hid (fun W C m d (RC : Lw.Rd W 1 C m (Lw.intsV .i64 (Lw.nst p L L.length).1)) => poly_Value p C m d (Lw.nst p L L.length).1 0 W RC zb p1 p2 (by have := RC.1; simp [Lw.intsV] at this; omega) (by omega) (by omega))
    cases h1 : Lw.zeroX L with
    | true =>
      rw [Lw.join_z h0 h1]
      rw [h1] at ZC
      clear R hw h0 hp h13 hL pp zb zl PV lL
      go_enter Try.func81, Try.ntmps81
      go_wp2_with fail
      refine X.out.mono ?_
      rintro e w1 ⟨C, m, d, rfl, R1, hb1⟩
      clear X
      go_wp2_with (go_at_call 129; (with_reducible refine (ZC.out _ hb1).mono ?_); rintro e w3 ⟨rfl, hb3⟩)
      go_ret2
      exact ⟨fun h => absurd h (by decide), fun _ => rfl, Lw.bt hb1 hb3⟩
    | false =>
      rw [Lw.join_ok h0 h1]
      rw [h1] at ZC
      clear R hw h0 hp h13 hL pp zb zl lL
      generalize (Lw.nst p L L.length).1 = a at *
      go_enter Try.func81, Try.ntmps81
      go_wp2_with fail
      refine X.out.mono ?_
      rintro e w1 ⟨C, m, d, rfl, R1, hb1⟩
      clear X
      have R1 := Lib.hid R1
      go_wp2_with (go_at_call 129; (with_reducible refine (ZC.out _ hb1).mono ?_); rintro e w3 ⟨rfl, hb3⟩)
      have PX := Lib.hid (PV.out w3 C m d (R1.out.below (Nat.le_refl _) hb3))
      go_wp2_with fail
      refine PX.out.mono ?_
      rintro e w4 ⟨rfl, hb4⟩
      go_wp2_with fail
      go_ret2
      exact ⟨fun _ => rfl, fun h => (h trivial).elim, Lw.bt (Lw.bt hb1 hb3) hb4⟩
  · rw [Lw.join_p h0]
    have X := Lib.hid (poly_Through_bad p A n c L w R hw h0)
    have z : (Lw.ptsE p L != 0) = true := by simpa using h0
    have z' : (Lw.ptsE p L == 0) = false := by simpa using h0
    generalize Lw.ptsE p L = E at *
    have H0 := Lib.hid h0
    clear R hw h0
    go_enter Try.func81, Try.ntmps81
    go_wp2_with fail
    refine X.out.mono ?_
    rintro e w1 ⟨rfl, hb1⟩
    go_wp2_with fail
    go_ret2
    exact ⟨fun h => absurd h H0.out, fun _ => rfl, hb1⟩
end Go.Proofs.Ytlgegdmnbhoepaa
