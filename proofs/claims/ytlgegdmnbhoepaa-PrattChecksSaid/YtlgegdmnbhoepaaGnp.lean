/- pratt.generates. -/
import Derived.Test.YtlgegdmnbhoepaaLin
import Derived.Test.YtlgegdmnbhoepaaPad
namespace Lw
open Go Go.RowKit
def oneB (g N : Int) (q : Int) : Bool := pw g ((N - 1) / q) N == 1
theorem gen_div {N q : Int} (hN : 3 ≤ N) (hN2 : N ≤ 1048576) (hq : 2 ≤ q) : 0 ≤ (N - 1) / q ∧ (N - 1) / q ≤ 1048576 := by
  refine ⟨Int.ediv_nonneg (by omega) (by omega), ?_⟩
  have := Int.ediv_le_self (b := q) (show 0 ≤ N - 1 by omega)
  omega
end Lw
set_option linter.unusedVariables false
set_option linter.unusedSimpArgs false
namespace Go.Proofs.Ytlgegdmnbhoepaa
open Go.RowKit
theorem gen_one (x : Int) (bg bn : Nat) (g N : Int) (w : World) (hg : w.cell? ⟨bg, 0, none⟩ = some (.int .i64 g)) (hb : w.cell? ⟨bn, 0, none⟩ = some (.int .i64 N)) (N1 : 3 ≤ N) (N2 : N ≤ 1048576) (hq : 2 ≤ x) :
    Calls Try.prog 148 #[.int .i64 x, .pointer (some ⟨bg, 0, none⟩), .pointer (some ⟨bn, 0, none⟩)] w fun e w' => e = .returned (.bool (Lw.oneB g N x)) ∧ ∃ d, w' = w.drewN d := by
  obtain ⟨d1, d2⟩ := Lw.gen_div N1 N2 hq
  have OB : Hid (Lw.oneB g N x = (Lw.pw g ((N - 1) / x) N == 1)) := rfl
  have TD : (N - 1).tdiv x = (N - 1) / x := Int.tdiv_eq_ediv_of_nonneg (by omega)
  have x0 : ¬ x = 0 := by omega
  generalize Lw.oneB g N x = B at *
  obtain ⟨e, he⟩ : ∃ z, (N - 1) / x = z := ⟨_, rfl⟩
  rw [he] at d1 d2 OB TD
  have PW := Lib.hid (fun W => power_Of g e N W (by omega) (by omega) (by omega) (by omega))
  obtain ⟨v, hv⟩ : ∃ z, Lw.pw g e N = z := ⟨_, rfl⟩
  rw [hv] at PW OB
  clear he hv
  go_enter Try.func148, Try.ntmps148
  go_wp2
  go_quiet ((go_at_call 62; exact Lw.quiet (PW.out _)))
  go_wp2
  go_ret
  exact ⟨by rw [OB.out]; rfl, _, rfl⟩
set_option maxHeartbeats 1000000 in
theorem gen_idx (A : Option Addr) (n c bg bn : Nat) (g N : Int) (zs : List Int) (w : World) (R : Lw.Rd w 1 A n (Lw.intsV .i64 zs)) (hn : n ≤ 17592186044416) (hg : w.cell? ⟨bg, 0, none⟩ = some (.int .i64 g)) (hb : w.cell? ⟨bn, 0, none⟩ = some (.int .i64 N)) (N1 : 3 ≤ N) (N2 : N ≤ 1048576) (hq : ∀ q ∈ zs, 2 ≤ q) :
    Calls Try.prog 107 #[.slice A n c, .func (.func 148) #[] #[.pointer (some ⟨bg, 0, none⟩), .pointer (some ⟨bn, 0, none⟩)]] w fun e w' => (∃ r : Int, e = .returned (.int .i64 r) ∧ ((zs.any (Lw.oneB g N) = false ∧ r = -1) ∨ (zs.any (Lw.oneB g N) = true ∧ 0 ≤ r))) ∧ ∃ d, w' = w.drewN d := by
  have R := Lib.hid R
  have l1 : zs.length = n := by have := R.out.1; simpa [Lw.intsV] using this
  have L := Lib.hid l1
  have HQ := Lib.hid hq
  clear l1 hq
  go_enter Try.func107, Try.ntmps107
  go_wp2
  go_loopw [5, 8] (fun x i wr => ∃ k d : Nat, i = .int .i64 (k : Int) ∧ k ≤ n ∧ Hid ((zs.take k).any (Lw.oneB g N) = false) ∧ wr = w.drewN d) (fun _ i _ => n - (intOf i).toNat)
  case atStart => exact ⟨0, 0, rfl, by omega, rfl, rfl⟩
  case round =>
    obtain ⟨k, dd, rfl, k1, T, rfl⟩ := hrel
    by_cases hlt : k < n
    · have hl : k < zs.length := by rw [L.out]; exact hlt
      obtain ⟨ad, rfl, had, hcell⟩ := R.out.at1 hlt (Lw.intsV_get hl)
      have NN := Lib.hid (Lw.any_take (p := Lw.oneB g N) hl T.out)
      have D := Lib.hid (Lw.any_at (p := Lw.oneB g N) hl)
      have q2 := HQ.out _ (List.getElem_mem hl)
      obtain ⟨x, hx⟩ : ∃ x, zs[k] = x := ⟨_, rfl⟩
      rw [hx] at hcell NN D q2
      have ON := Lib.hid (gen_one x bg bn g N (w.drewN dd) hg hb N1 N2 q2)
      clear hx
      cases hv : Lw.oneB g N x with
      | true =>
        have D1 := Lib.hid (D.out hv)
        rw [hv] at ON
        clear NN D hv
        go_wp2_with (go_at_call 148; (with_reducible refine (ON.out).mono ?_); rintro e w' ⟨rfl, d2, rfl⟩)
        go_ret
        exact ⟨⟨_, rfl, .inr ⟨D1.out, by omega⟩⟩, _, rfl⟩
      | false =>
        have N1' := Lib.hid (NN.out hv)
        rw [hv] at ON
        clear NN D hv
        go_wp2_with (go_at_call 148; (with_reducible refine (ON.out).mono ?_); rintro e w' ⟨rfl, d2, rfl⟩)
        go_roundw
        case rel => exact ⟨k + 1, _, by go_num, by omega, N1', rfl⟩
        case measure => simp [intOf]; omega
    · have hk : zs.take k = zs := List.take_of_length_le (by rw [L.out]; omega)
      have E : Hid (zs.any (Lw.oneB g N) = false) := by have := T.out; rwa [hk] at this
      clear hk
      go_wp2
      go_ret
      exact ⟨⟨_, rfl, .inl ⟨E.out, rfl⟩⟩, dd, rfl⟩
theorem gen_con (A : Option Addr) (n c bg bn : Nat) (g N : Int) (zs : List Int) (w : World) (R : Lw.Rd w 1 A n (Lw.intsV .i64 zs)) (hn : n ≤ 17592186044416) (hg : w.cell? ⟨bg, 0, none⟩ = some (.int .i64 g)) (hb : w.cell? ⟨bn, 0, none⟩ = some (.int .i64 N)) (N1 : 3 ≤ N) (N2 : N ≤ 1048576) (hq : ∀ q ∈ zs, 2 ≤ q) :
    Calls Try.prog 52 #[.slice A n c, .func (.func 148) #[] #[.pointer (some ⟨bg, 0, none⟩), .pointer (some ⟨bn, 0, none⟩)]] w fun e w' => e = .returned (.bool (zs.any (Lw.oneB g N))) ∧ ∃ d, w' = w.drewN d := by
  have X := Lib.hid (gen_idx A n c bg bn g N zs w R hn hg hb N1 N2 hq)
  clear R hb hg hq
  go_enter Try.func52, Try.ntmps52
  go_wp2_with (go_at_call 107; (with_reducible refine (X.out).mono ?_); rintro e w1 ⟨⟨r, rfl, hr⟩, d, rfl⟩)
  go_ret
  exact ⟨Lw.ret_bool (Lw.IdxT.ge hr), d, rfl⟩
set_option maxHeartbeats 1000000 in
theorem pratt_generates (g N : Int) (A : Option Addr) (n c : Nat) (qs : List Int) (w : World) (R : Lw.Rd w 1 A n (Lw.intsV .i64 qs)) (hn : n ≤ 17592186044416) (N1 : 3 ≤ N) (N2 : N ≤ 1048576) (hq : ∀ q ∈ qs, 2 ≤ q) :
    Calls Try.prog 102 #[.int .i64 g, .int .i64 N, .slice A n c] w fun e w' => e = .returned (.bool ((Lw.pw g (N - 1) N == 1) && !(qs.any (Lw.oneB g N)))) ∧ Below w.heap.size w w' := by
  obtain ⟨W, hW⟩ : ∃ W, (w.alloc (.cells #[.int .i64 g] 2)).alloc (.cells #[.int .i64 N] 2) = W := ⟨_, rfl⟩
  have B0 := Lib.hid (show W.heap[w.heap.size]? = some (.cells #[.int .i64 g] 2 (0, 0)) from hW ▸ Lw.blk_alloc (Lw.blk_new _ _ _) _)
  have B1 := Lib.hid (show W.heap[w.heap.size + 1]? = some (.cells #[.int .i64 N] 2 (0, 0)) from hW ▸ Lw.blk_new' (by simp) _ _)
  have hBW : Below w.heap.size w W := by rw [← hW]; exact Lw.balloc (Lw.balloc (Below.refl _ _) _) _
  have l0 := Lw.blk_cell B0.out 0
  have l1 := Lw.blk_cell B1.out 0
  simp at l0 l1
  have PW := Lib.hid (fun W => power_Of g (N - 1) N W (by omega) (by omega) (by omega) (by omega))
  have CN := Lib.hid (gen_con A n c w.heap.size (w.heap.size + 1) g N qs W (R.below (Nat.le_refl _) hBW) hn l0 l1 N1 N2 hq)
  generalize qs.any (Lw.oneB g N) = y at *
  obtain ⟨v, hv⟩ : ∃ z, Lw.pw g (N - 1) N = z := ⟨_, rfl⟩
  rw [hv] at PW
  rw [hv]
  have HW := Lib.hid hW
  clear hW R hq hv
  by_cases h1 : v = 1
  · subst h1
    have z : ((1 : Int) != 1) = false := rfl
    go_enter Try.func102, Try.ntmps102
    go_wp2_with fail
    rw [HW.out]
    refine (PW.out _).mono ?_
    rintro e w' ⟨rfl, rfl⟩
    go_wp2_with (go_at_call 52; (with_reducible refine (CN.out).mono ?_); rintro e w1 ⟨rfl, d, rfl⟩)
    go_ret
    exact ⟨rfl, Lw.bdrewN hBW _⟩
  · have z : (v != 1) = true := by simpa using h1
    have z2 : (v == 1) = false := by simpa using h1
    rw [z2]
    go_enter Try.func102, Try.ntmps102
    go_wp2_with fail
    rw [HW.out]
    refine (PW.out _).mono ?_
    rintro e w' ⟨rfl, rfl⟩
    go_wp2_with fail
    go_ret
    exact ⟨rfl, hBW⟩
end Go.Proofs.Ytlgegdmnbhoepaa
