/- Contracts of primes.out, primes.powers, primes.Is. -/
import Derived.Test.YtafefengppiobaaKCurveTimes2
set_option linter.unusedVariables false
set_option linter.unusedSimpArgs false
namespace Lw
def primeB (n : Int) : Bool := decide (Prime n.toNat)
def outB (n : Int) : Bool := decide (n < 1) || decide (1048576 < n)
theorem primeB_small {m : Nat} (h : fac m = []) : primeB (m : Int) = false := by
  have : ¬ 2 ≤ m := fun h2 => by rw [fac_cons h2] at h; cases h
  unfold primeB Prime
  simp only [Int.toNat_natCast]
  exact decide_eq_false (fun h => this h.1)
theorem primeB_first {m : Nat} {x : Nat × Nat} (h1 : 1 ≤ m) (h : [] ++ [x] <+: fac m) : primeB (m : Int) = ((x.1 : Int) == (m : Int)) := by
  by_cases h2 : 2 ≤ m
  · rw [fac_cons h2] at h
    obtain ⟨r, hr⟩ := h
    simp at hr
    obtain ⟨rfl, _⟩ := hr
    unfold primeB Prime
    rw [Bool.eq_iff_iff]
    simp [h2]
    omega
  · rw [fac_small (by omega)] at h
    simp at h
theorem outB_false {n : Int} (h1 : 1 ≤ n) (h2 : n ≤ 1048576) : outB n = false := by unfold outB; simp; omega
theorem outB_true {n : Int} (h : n < 1 ∨ 1048576 < n) : outB n = true := by unfold outB; simp; omega
end Lw
namespace Go.Proofs.Ytafefengppiobaa
open Go.RowKit Go.Shelf

theorem primes_out (n : Int) (w : World) :
    Calls Try.prog 37 #[.int .i64 n] w fun e w' => e = .returned (.bool (Lw.outB n)) ∧ w = w' := by
  by_cases h : n < 1
  · have E := Lib.hid (Lw.outB_true (.inl h))
    go_enter Try.func37, Try.ntmps37
    go_wp2
    go_ret
    rw [E.out]; exact ⟨by simp, rfl⟩
  · have E : Hid (Lw.outB n = decide (1048576 < n)) := by unfold Lw.outB; simp [Hid, h]
    go_enter Try.func37, Try.ntmps37
    go_wp2
    go_ret
    rw [E.out]; exact ⟨rfl, rfl⟩
theorem primes_powers (n : Int) (w : World) :
    Calls Try.prog 38 #[.int .i64 n] w fun e w' => e = .returned (.func (.func 41) #[] #[.pointer (some ⟨w.heap.size, 0, none⟩)]) ∧ w.alloc (.cells #[.int .i64 n] 2) = w' := by
  go_enter Try.func38, Try.ntmps38
  go_wp2
  go_ret
  exact ⟨rfl, rfl⟩
attribute [local go_sem] Oper.semAt_some

theorem is_end {w W : World} {D : Nat} {m : Int} {b : Bool} {tmps : Array Value} (h1 : W.heap[w.heap.size + 1]? = some (.cells #[.bool b] 4 (0, 0))) (h2 : W.heap[w.heap.size + 1 + 1]? = some (.cells #[.int .i64 0] 23 (0, 0))) (hB : Below w.heap.size w W)
    (hK : W.heap[D]? = some (.deferred (some []))) (hd0 : w.heap.size ≤ D) (hd1 : w.heap.size + 1 ≠ D) (hd2 : w.heap.size + 1 + 1 ≠ D) (ht2 : tmps[2]? = some (.pointer (some ⟨w.heap.size + 1, 0, none⟩))) (ht3 : tmps[3]? = some (.pointer (some ⟨w.heap.size + 1 + 1, 0, none⟩))) (hb : b = Lw.primeB m) :
    LeavesInM Fence.wide 4 Try.prog Try.f33 tmps (fun e w' => e = .returned (.tuple #[.bool (Lw.primeB m), .int .i64 0]) ∧ Below w.heap.size w w') [] FrameMode.returning (W.putObj D (Obj.deferred none)) := by
  have g := grownBy_putObj' W D (.deferred none)
  have c1 := Lw.blk_cell (Lw.blk_kept h1 g (fun e => hd1 (by cases e; rfl))) 0
  have c2 := Lw.blk_cell (Lw.blk_kept h2 g (fun e => hd2 (by cases e; rfl))) 0
  simp at c1 c2
  subst hb
  refine ⟨.tuple #[.bool (Lw.primeB m), .int .i64 0], ?_, rfl, hB.trans (belowK_b (w := w) (Nat.le_refl _) W D _ _ hd0 hK rfl rfl)⟩
  simp [results, Try.f33, go_sem, c1, c2, ht2, ht3]
theorem primes_Is (n : Int) (w : World) (h1 : 1 ≤ n) (h2 : n ≤ 1048576) :
    Calls Try.prog 33 #[.int .i64 n] w fun e w' => e = .returned (.tuple #[.bool (Lw.primeB n), .int .i64 0]) ∧ Below w.heap.size w w' := by
  obtain ⟨m, rfl⟩ := Int.eq_ofNat_of_zero_le (by omega : 0 ≤ n)
  have ho := Lw.outB_false h1 h2
  refine (callsIn_wide (n := 4)).1 ?_
  refine callsIn_of_wp_marks Try.func33 rfl trivial ?_ rfl
  simp only [Try.ntmps33, List.size_toArray, List.length_cons, List.length_nil, Nat.reduceAdd, Nat.reduceSub, Array.replicate_succ, Array.replicate_zero, List.push_toArray, List.append_toArray, List.nil_append, List.cons_append]
  gi_wp2_with (first | (refine ⟨trivial, ?_⟩; gi_at_call 37; refine (callsIn_wide.2 (primes_out _ _)).mono ?_; rintro e w' ⟨rfl, rfl⟩) | (refine ⟨trivial, ?_⟩; gi_at_call 38; refine (callsIn_wide.2 (primes_powers _ _)).mono ?_; rintro e w' ⟨rfl, rfl⟩))
  refine Lw.wpIn_rangeC rfl (by omega) (gf := 41) (lb := #[.pointer (some ⟨w.heap.size + 1 + 1 + 1, 0, none⟩)]) rfl trivial (enters_of Try.func41 (by kernel_rfl) rfl) (powers1_seq _ _ m _ (by omega) (by omega) (by omega) ?cell) ?lt (fun _ => rfl)
    (fun pre W => pre = [] ∧ w.heap.size + 1 + 1 + 1 < W.heap.size ∧ Below w.heap.size w W ∧ W.heap[w.heap.size]? = some (.cells #[.int .i64 (m : Int)] 2 (0, 0)) ∧ W.heap[w.heap.size + 1]? = some (.cells #[.bool false] 4 (0, 0)) ∧ W.heap[w.heap.size + 1 + 1]? = some (.cells #[.int .i64 0] 23 (0, 0)))
    (fun k pre W => (∃ x : Nat × Nat, (pre = [x] ∧ k = .ret) ∧ W.heap[w.heap.size + 1]? = some (.cells #[.bool ((x.1 : Int) == (m : Int))] 4 (0, 0))) ∧ Below w.heap.size w W ∧ W.heap[w.heap.size + 1 + 1]? = some (.cells #[.int .i64 0] 23 (0, 0)))
    (Lw.own_and (Lw.own_pure _) (Lw.own_and (Lw.own_size _) (Lw.own_and (Lw.own_below (by simp; omega) (Nat.le_refl _)) (Lw.own_and (Lw.blk_own _ _ _ (fun _ => rfl)) (Lw.own_and (Lw.blk_own _ _ _ (fun _ => rfl)) (Lw.blk_own _ _ _ (fun _ => rfl)))))))
    (Lw.AbC.and (Lw.abc_pure _) (Lw.AbC.and (Lw.abc_size _) (Lw.AbC.and (Lw.below_abc (by omega) (Nat.le_refl _)) (Lw.AbC.and (Lw.blk_abc (by omega) _) (Lw.AbC.and (Lw.blk_abc (by omega) _) (Lw.blk_abc (by omega) _))))))
    (fun k => Lw.own_and (Lw.own_ex fun x => Lw.own_and (Lw.own_pure _) (Lw.blk_own _ _ _ (fun _ => rfl))) (Lw.own_and (Lw.own_below (by simp; omega) (Nat.le_refl _)) (Lw.blk_own _ _ _ (fun _ => rfl))))
    (fun k => Lw.AbC.and (Lw.AbC.ex fun x => Lw.AbC.and (Lw.abc_pure _) (Lw.blk_abc (by omega) _)) (Lw.AbC.and (Lw.below_abc (by omega) (Nat.le_refl _)) (Lw.blk_abc (by omega) _)))
    ?h0 (fun x a' W => ∃ Bx, (w.heap.size + 1 + 1 + 1 < Bx ∧ a' = { tmps := #[.int .i64 (m : Int), .pointer (some ⟨w.heap.size, 0, none⟩), .pointer (some ⟨w.heap.size + 1, 0, none⟩), .pointer (some ⟨w.heap.size + 1 + 1, 0, none⟩), .pointer (some ⟨Bx, 0, none⟩), .int .i64 (m : Int), .bool false, .int .i64 (m : Int), .func (.func 41) #[] #[.pointer (some ⟨w.heap.size + 1 + 1 + 1, 0, none⟩)], .agg #[.int .i64 (x.1 : Int), .int .i64 (x.2 : Int)], undef, undef, undef, undef], defers := [] }) ∧ W.heap[Bx]? = some (.cells #[.int .i64 (x.1 : Int), .int .i64 (x.2 : Int)] 77 (0, 0)))
    (fun x a' => Lw.own_ex fun Bx => Lw.own_and (Lw.own_pure _) (Lw.blk_own _ _ (fun _ => _) (fun _ => rfl))) ?assign ?body ?done ?stop
  case cell => exact Lw.blk_new' (by simp) _ _
  case lt => simp
  case h0 => exact ⟨rfl, by simp, by go_grown, Lw.blk_alloc (Lw.blk_alloc (Lw.blk_alloc (Lw.blk_new _ _ _) _) _) _, Lw.blk_alloc (Lw.blk_alloc (Lw.blk_new' (by simp) _ _) _) _, Lw.blk_alloc (Lw.blk_new' (by simp) _ _) _⟩
  case assign =>
    intro l pre x W K hi hK
    have hsz := hi.2.1
    gi_wp2
    obtain ⟨rfl, hz, hB, b0, b1, b2⟩ := hi
    refine hK _ _ ((KeepsOthers.alloc _ _).from _) (Below.heap_alloc _ _ _ ?_) ⟨rfl, by simp; omega, hB.alloc hB.size _, Lw.blk_alloc b0 _, Lw.blk_alloc b1 _, Lw.blk_alloc b2 _⟩ ⟨W.heap.size, ⟨?_, ?_⟩, Lw.blk_new _ _ _⟩
    · exact hsz
    · exact hsz
    · rfl
  case body =>
    rintro l pre x a' W hl ⟨r, hr⟩ ⟨rfl, hz, hB, b0, b1, b2⟩ ⟨Bx, ⟨hBx, rfl⟩, bx⟩ hx
    have c0 := Lw.blk_cell b0 0; have c1 := Lw.blk_cell b1 0; have c2 := Lw.blk_cell b2 0; have cx := Lw.blk_cell bx 0
    have f1 := Lw.blk_free b1 0; have f2 := Lw.blk_free b2 0
    simp at c0 c1 c2 cx
    have B1 := Lib.hid b1; have B2 := Lib.hid b2
    clear b0 b1 b2 bx
    gi_wp2
    refine ⟨((KeepsOthers.setCell _ _ _).trans (KeepsOthers.setCell _ _ _)).from _, ⟨x, ⟨rfl, rfl⟩, Lw.blk_set_other (Lw.blk_set_same B1.out 0 _) (by omega) 0 _⟩, (hB.setCell (p := ⟨_, 0, none⟩) (by simp) _).setCell (p := ⟨_, 0, none⟩) (by simp; omega) _, ?_⟩
    have := Lw.blk_set_same (Lw.blk_set_other B2.out (by omega : w.heap.size + 1 + 1 ≠ w.heap.size + 1) 0 (.bool ((x.1 : Int) == (m : Int)))) 0 (.int .i64 0)
    exact this
  case done =>
    rintro D W hD ⟨h0, hz, hB, b0, b1, b2⟩ hK
    have c1 := Lw.blk_cell b1 0; have c2 := Lw.blk_cell b2 0
    have f1 := Lw.blk_free b1 0; have f2 := Lw.blk_free b2 0
    simp at c1 c2
    have B1 := Lib.hid b1; have B2 := Lib.hid b2; have HK := Lib.hid hK
    clear b0 b1 b2 hK
    gi_wp2
    refine ⟨by simp, .inl ⟨_, _, rfl, run_takeDeferred (((KeepsOthers.setCell _ _ _).trans (KeepsOthers.setCell _ _ _)).same D _ HK.out rfl), ?_⟩⟩
    have k1 := Lw.blk_set_other (Lw.blk_set_same B1.out 0 (.bool false)) (by omega : w.heap.size + 1 ≠ w.heap.size + 1 + 1) 0 (.int .i64 0)
    have k2 := Lw.blk_set_same (Lw.blk_set_other B2.out (by omega : w.heap.size + 1 + 1 ≠ w.heap.size + 1) 0 (.bool false)) 0 (.int .i64 0)
    have hb3 : Below w.heap.size w ((W.setCell ⟨w.heap.size + 1, 0, none⟩ (.bool false)).setCell ⟨w.heap.size + 1 + 1, 0, none⟩ (.int .i64 0)) := (hB.setCell (p := ⟨_, 0, none⟩) (by simp) _).setCell (p := ⟨_, 0, none⟩) (by simp; omega) _
    have hk3 := ((KeepsOthers.setCell W ⟨w.heap.size + 1, 0, none⟩ (.bool false)).trans (KeepsOthers.setCell _ ⟨w.heap.size + 1 + 1, 0, none⟩ (.int .i64 0))).same D _ HK.out rfl
    refine is_end k1 k2 hb3 hk3 (by simp at hD; omega) (by simp at hD; omega) (by simp at hD; omega) rfl rfl ?_
    exact (Lw.primeB_small h0).symm
  case stop =>
    rintro D k pre W hD hp ⟨⟨x, ⟨rfl, rfl⟩, b1⟩, hB, b2⟩ hK
    have c1 := Lw.blk_cell b1 0; have c2 := Lw.blk_cell b2 0
    have B1 := Lib.hid b1; have B2 := Lib.hid b2; have HK := Lib.hid hK
    clear b1 b2 hK
    gi_wp2
    refine ⟨by simp, .inl ⟨_, _, rfl, run_takeDeferred HK.out, ?_⟩⟩
    refine is_end B1.out B2.out hB HK.out (by simp at hD; omega) (by simp at hD; omega) (by simp at hD; omega) rfl rfl ?_
    exact (Lw.primeB_first (by omega) hp).symm
theorem primes_Is_bad (n : Int) (w : World) (h : n < 1 ∨ 1048576 < n) :
    Calls Try.prog 33 #[.int .i64 n] w fun e w' => e = .returned (.tuple #[.bool false, .int .i64 2]) ∧ Below w.heap.size w w' := by
  have ho := Lw.outB_true h
  refine (callsIn_wide (n := 4)).1 ?_
  refine callsIn_of_wp_marks Try.func33 rfl trivial ?_ rfl
  simp only [Try.ntmps33, List.size_toArray, List.length_cons, List.length_nil, Nat.reduceAdd, Nat.reduceSub, Array.replicate_succ, Array.replicate_zero, List.push_toArray, List.append_toArray, List.nil_append, List.cons_append]
  gi_wp2_with (refine ⟨trivial, ?_⟩; gi_at_call 37; refine (callsIn_wide.2 (primes_out _ _)).mono ?_; rintro e w' ⟨rfl, rfl⟩)
  refine ⟨.tuple #[.bool false, .int .i64 2], ?_, rfl, by go_grown⟩
  simp [results, Try.f33, go_sem]
theorem ref_Is (n : Int) (w : World) (h2 : n ≤ 1048576) :
    Calls Try.prog 27 #[.int .i64 n] w fun e w' => e = .returned (.bool (Lw.primeB n)) ∧ w = w' := by
  by_cases h1 : n < 2
  · have E : Hid (Lw.primeB n = false) := by
      unfold Lw.primeB Lw.Prime
      exact decide_eq_false (fun h => by have := h.1; omega)
    go_enter Try.func27, Try.ntmps27
    go_wp2
    go_ret
    rw [E.out]; exact ⟨rfl, rfl⟩
  · obtain ⟨m, rfl⟩ := Int.eq_ofNat_of_zero_le (by omega : 0 ≤ n)
    go_enter Try.func27, Try.ntmps27
    go_wp2
    go_loop [3] (fun d => ∃ k : Nat, d = .int .i64 (k : Int) ∧ 2 ≤ k ∧ k ≤ 1048576 ∧ Hid (Lw.NoBelow k m)) (fun d => (1048577 - intOf d).toNat)
    case atStart => exact ⟨2, rfl, by omega, by omega, Lw.NoBelow.two _⟩
    case round =>
      obtain ⟨k, rfl, k1, k2, H⟩ := hrel
      obtain ⟨q1, q2⟩ := Lw.mul_bd' (k : Int) (k : Int) 1048576 (by omega) (by omega) (by omega) (by omega)
      by_cases hkm : (k : Int) < (m : Int)
      · by_cases hkk : (k : Int) * (k : Int) ≤ (m : Int)
        · have L := Lib.hid (show k < m ∧ k ≤ 1048575 by omega)
          by_cases hd : m % k = 0
          · have hd1 : ((m : Int) % (k : Int) == 0) = true := by simp; omega
            have E : Hid (Lw.primeB (m : Int) = false) := by
              unfold Lw.primeB
              refine decide_eq_false (fun h => ?_)
              rw [Int.toNat_natCast] at h
              rcases h.dvd (Nat.dvd_of_mod_eq_zero hd) with e | e <;> omega
            clear hd
            go_wp2
            go_ret
            rw [E.out]; exact ⟨rfl, rfl⟩
          · have hd1 : ((m : Int) % (k : Int) == 0) = false := by simp; omega
            have N := Lib.hid (H.out.next hd)
            clear hd
            go_wp2
            go_round
            case rel => exact ⟨k + 1, by go_num, by omega, by have := L.out; omega, N⟩
            case measure => simp [intOf]; have := L.out; omega
        · have E : Hid (Lw.primeB (m : Int) = true) := by
            unfold Lw.primeB Lw.Prime
            rw [Int.toNat_natCast]
            refine decide_eq_true ⟨by omega, Lw.minFac_self (by omega) H.out (by rw [← Int.natCast_mul] at hkk; omega)⟩
          go_wp2
          go_ret
          rw [E.out]; exact ⟨rfl, rfl⟩
      · have E : Hid (Lw.primeB (m : Int) = true) := by
          unfold Lw.primeB Lw.Prime
          rw [Int.toNat_natCast]
          refine decide_eq_true ⟨by omega, Lw.minFac_eq (by omega) (by omega) (Nat.dvd_refl _) fun d h2 hd => by have := H.out d h2 hd; omega⟩
        go_wp2
        go_ret
        rw [E.out]; exact ⟨rfl, rfl⟩
end Go.Proofs.Ytafefengppiobaa
