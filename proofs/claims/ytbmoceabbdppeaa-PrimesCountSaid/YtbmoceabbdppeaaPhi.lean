/- Contracts of primes.Phi and of the reference's Phi. -/
import Derived.Test.YtbmoceabbdppeaaIs
import Derived.Test.YtbmoceabbdppeaaCnt
import Derived.Test.YtbmoceabbdppeaaEuc
set_option linter.unusedVariables false
set_option linter.unusedSimpArgs false
namespace Go.Proofs.Ytbmoceabbdppeaa
open Go.RowKit Go.Shelf

theorem ref_Phi (n : Int) (w : World) (h1 : 1 ≤ n) (h2 : n ≤ 1048576) :
    Calls Try.prog 37 #[.int .i64 n] w fun e w' => e = .returned (.int .i64 (Lw.phiI n)) ∧ w = w' := by
  obtain ⟨m, rfl⟩ := Int.eq_ofNat_of_zero_le (by omega : 0 ≤ n)
  go_enter Try.func37, Try.ntmps37
  go_wp2
  go_loop [3, 4] (fun c x => ∃ k : Nat, k ≤ m ∧ x = .int .i64 ((k : Int) + 1) ∧ c = .int .i64 ((Lw.cnt (fun y => Nat.gcd (y + 1) m == 1) k : Nat) : Int)) (fun _ x => (1048577 - intOf x).toNat)
  case atStart => exact ⟨0, by omega, rfl, rfl⟩
  case round =>
    obtain ⟨k, hk, rfl, rfl⟩ := hrel
    have hle := Lw.cnt_le (fun y => Nat.gcd (y + 1) m == 1) k
    by_cases hlt : k < m
    · have hs := Lib.hid (Lw.cnt_succ (fun y => Nat.gcd (y + 1) m == 1) k)
      have hg : Hid (Lw.gcdI ((k : Int) + 1) (m : Int) = ((Nat.gcd (k + 1) m : Nat) : Int)) := rfl
      generalize Lw.cnt (fun y => Nat.gcd (y + 1) m == 1) k = C at *
      by_cases h : Nat.gcd (k + 1) m = 1
      · have hb : (Lw.gcdI ((k : Int) + 1) (m : Int) == 1) = true := by rw [hg.out, h]; rfl
        have hs2 : Hid (Lw.cnt (fun y => Nat.gcd (y + 1) m == 1) (k + 1) = C + 1) := by show _ = _; rw [hs.out, h]; rfl
        clear h
        go_wp2_with (go_at_call 31; refine (ref_Gcd _ _ _ (by omega) (by omega) (by omega) (by omega)).mono ?_; rintro e w' ⟨rfl, rfl⟩)
        go_round
        case rel => exact ⟨k + 1, by omega, by go_num, by rw [hs2.out]; go_num⟩
        case measure => simp [intOf]; omega
      · have hb : (Lw.gcdI ((k : Int) + 1) (m : Int) == 1) = false := by rw [hg.out]; simp; omega
        have hs2 : Hid (Lw.cnt (fun y => Nat.gcd (y + 1) m == 1) (k + 1) = C) := by show _ = _; rw [hs.out]; simp [h]
        clear h
        go_wp2_with (go_at_call 31; refine (ref_Gcd _ _ _ (by omega) (by omega) (by omega) (by omega)).mono ?_; rintro e w' ⟨rfl, rfl⟩)
        go_round
        case rel => exact ⟨k + 1, by omega, by go_num, by rw [hs2.out]⟩
        case measure => simp [intOf]; omega
    · obtain rfl : k = m := by omega
      have E : Hid (((Lw.cnt (fun y => Nat.gcd (y + 1) k == 1) k : Nat) : Int) = Lw.phiI (k : Int)) := by show _ = _; rw [Lw.phiI_nat, Lw.phi_shift]
      go_wp2
      go_ret
      rw [E.out]; exact ⟨rfl, rfl⟩

attribute [local go_sem] Oper.semAt_some

set_option maxHeartbeats 2000000 in
theorem primes_Phi (n : Int) (w : World) (h1 : 1 ≤ n) (h2 : n ≤ 1048576) :
    Calls Try.prog 36 #[.int .i64 n] w fun e w' => e = .returned (.tuple #[.int .i64 (Lw.phiI n), .int .i64 0]) ∧ Below w.heap.size w w' := by
  obtain ⟨m, rfl⟩ := Int.eq_ofNat_of_zero_le (by omega : 0 ≤ n)
  have ho := Lw.outB_false h1 h2
  refine (callsIn_wide (n := 4)).1 ?_
  refine callsIn_of_wp_marks Try.func36 rfl trivial ?_ rfl
  simp only [Try.ntmps36, List.size_toArray, List.length_cons, List.length_nil, Nat.reduceAdd, Nat.reduceSub, Array.replicate_succ, Array.replicate_zero, List.push_toArray, List.append_toArray, List.nil_append, List.cons_append]
  gi_wp2_with (first | (refine ⟨trivial, ?_⟩; gi_at_call 58; refine (callsIn_wide.2 (primes_out _ _)).mono ?_; rintro e w' ⟨rfl, rfl⟩) | (refine ⟨trivial, ?_⟩; gi_at_call 59; refine (callsIn_wide.2 (primes_powers _ _)).mono ?_; rintro e w' ⟨rfl, rfl⟩))
  refine Lw.wpIn_rangeC rfl (by omega) (gf := 66) (lb := #[.pointer (some ⟨w.heap.size + 1, 0, none⟩)]) rfl trivial (enters_of Try.func66 (by kernel_rfl) rfl) (powers1_seq _ _ m _ (by omega) (by omega) (by omega) (Lw.blk_new' (by simp) _ _)) (by simp) (fun _ => rfl)
    (fun pre W => w.heap.size + 1 < W.heap.size ∧ Below w.heap.size w W ∧ W.heap[w.heap.size]? = some (.cells #[.int .i64 ((Lw.phiL m pre : Nat) : Int)] 2 (0, 0)))
    (fun k pre W => False)
    (Lw.own_and (Lw.own_size _) (Lw.own_and (Lw.own_below (by simp; omega) (Nat.le_refl _)) (Lw.blk_own _ _ _ (fun _ => rfl))))
    (Lw.AbC.and (Lw.abc_size _) (Lw.AbC.and (Lw.below_abc (by omega) (Nat.le_refl _)) (Lw.blk_abc (by omega) _)))
    (fun k => Lw.own_pure _) (fun k => Lw.abc_pure _) ⟨by simp, by go_grown, Lw.blk_alloc (Lw.blk_new' rfl _ _) _⟩
    (fun x a' W => ∃ Bx, (w.heap.size + 1 < Bx ∧ a' = { tmps := #[.int .i64 (m : Int), undef, .int .i64 0, .int .i64 0, .pointer (some ⟨w.heap.size, 0, none⟩), .pointer (some ⟨Bx, 0, none⟩), .int .i64 (m : Int), .bool false, .int .i64 (m : Int), .int .i64 (m : Int), .func (.func 66) #[] #[.pointer (some ⟨w.heap.size + 1, 0, none⟩)], .agg #[.int .i64 (x.1 : Int), .int .i64 (x.2 : Int)], undef, undef, undef, undef, undef, undef, undef, undef, undef], defers := [] }) ∧ W.heap[Bx]? = some (.cells #[.int .i64 (x.1 : Int), .int .i64 (x.2 : Int)] 73 (0, 0)))
    (fun x a' => Lw.own_ex fun Bx => Lw.own_and (Lw.own_pure _) (Lw.blk_own _ _ (fun _ => _) (fun _ => rfl))) ?assign ?body ?done ?stop
  case assign =>
    intro l pre x W K hi hK
    have hsz := hi.1
    gi_wp2
    obtain ⟨hz, hB, b0⟩ := hi
    exact hK _ _ ((KeepsOthers.alloc _ _).from _) (Below.heap_alloc _ _ _ hsz) ⟨by simp; omega, hB.alloc hB.size _, Lw.blk_alloc b0 _⟩ ⟨W.heap.size, ⟨hsz, rfl⟩, Lw.blk_new _ _ _⟩
  case body =>
    rename_i Q1 K1 HK1
    clear HK1 K1 Q1
    rintro l pre x a' W hl ⟨r, hr⟩ ⟨hz, hB, b0⟩ ⟨Bx, ⟨hBx, rfl⟩, bx⟩ hx
    have c0 := Lw.blk_cell b0 0; have cx := Lw.blk_cell bx 0
    have f0 := Lw.blk_free b0 0
    simp at c0 cx
    have B0 := Lib.hid b0
    obtain ⟨p, k⟩ := x
    have hX := Lw.phiL_le pre m
    have hm : (p, k) ∈ Lw.fac m := hx.subset (by simp)
    obtain ⟨hp, hpm, _⟩ := Lw.fac_mem m (p, k) hm
    have hp2 : 2 ≤ p := hp.1
    have hpm : p ≤ m := Nat.le_of_dvd (by omega) hpm
    have hs := Lib.hid (Lw.phiL_snoc p k pre m)
    clear hp b0 bx hm
    generalize Lw.phiL m pre = X at *
    have hq : X / p * (p - 1) ≤ X := by
      have h1 : X / p * (p - 1) ≤ X / p * p := Nat.mul_le_mul_left _ (by omega)
      have h2 := Nat.div_mul_le_self X p
      omega
    have hq3 : ((X : Int) / (p : Int)) * ((p : Int) - 1) = ((X / p * (p - 1) : Nat) : Int) := by
      rw [Int.natCast_mul, Int.natCast_ediv, Int.natCast_sub (by omega)]; rfl
    have hq1 : 0 ≤ ((X : Int) / (p : Int)) * ((p : Int) - 1) := by omega
    have hq2 : ((X : Int) / (p : Int)) * ((p : Int) - 1) ≤ 1048576 := by omega
    have Q3 := Lib.hid hq3
    have HB := Lib.hid hB
    have HR := Lib.hid hr
    have HX := Lib.hid hx
    have HZ := Lib.hid hz
    have hp0 : ¬ (p : Int) = 0 := by omega
    have hd0 : 0 ≤ (X : Int) / (p : Int) ∧ (X : Int) / (p : Int) ≤ 1048576 := by
      have h3 : ((X / p : Nat) : Int) ≤ (X : Int) := Int.ofNat_le.2 (Nat.div_le_self _ _)
      rw [← Int.natCast_ediv]
      exact ⟨Int.natCast_nonneg _, Int.le_trans h3 (by omega)⟩
    clear hq3 hq hB hr hx hz
    have W1 : IntKind.i64.wrap ((p : Int) - 1) = (p : Int) - 1 := IntWalk.i64_in _ (by omega)
    have W2 : wrap64 ((X : Int) / (p : Int)) = (X : Int) / (p : Int) := IntWalk.wrap64_in _ (by omega)
    have W3 : IntKind.i64.wrap (((X : Int) / (p : Int)) * ((p : Int) - 1)) = ((X : Int) / (p : Int)) * ((p : Int) - 1) := IntWalk.i64_in _ (by omega)
    have fin : KeepsFrom ((w.alloc (.cells #[.int .i64 (m : Int)] 2)).alloc (.cells #[.int .i64 (m : Int)] 2)).heap.size W ((W.setCell ⟨w.heap.size, 0, none⟩ (.int .i64 (((X : Int) / (p : Int)) * ((p : Int) - 1)))).drew) ∧ ((W.setCell ⟨w.heap.size, 0, none⟩ (.int .i64 (((X : Int) / (p : Int)) * ((p : Int) - 1)))).drew).heap[w.heap.size + 1]? = W.heap[w.heap.size + 1]? ∧ w.heap.size + 1 < ((W.setCell ⟨w.heap.size, 0, none⟩ (.int .i64 (((X : Int) / (p : Int)) * ((p : Int) - 1)))).drew).heap.size ∧ Below w.heap.size w ((W.setCell ⟨w.heap.size, 0, none⟩ (.int .i64 (((X : Int) / (p : Int)) * ((p : Int) - 1)))).drew) ∧ ((W.setCell ⟨w.heap.size, 0, none⟩ (.int .i64 (((X : Int) / (p : Int)) * ((p : Int) - 1)))).drew).heap[w.heap.size]? = some (.cells #[.int .i64 ((Lw.phiL m (pre ++ [(p, k)]) : Nat) : Int)] 2 (0, 0)) := by
      refine ⟨((KeepsOthers.setCell _ _ _).trans (KeepsOthers.drew _)).from _, Below.heap_setCell W _ _ _ (by simp), by simp [World.setCell, World.drew]; exact HZ.out, (HB.out.setCell (p := ⟨_, 0, none⟩) (Nat.le_refl _) _).drew, ?_⟩
      rw [hs.out, ← Q3.out]
      exact one_setCell B0.out
    have FIN := Lib.hid fin
    clear fin HB HR HX HZ hl hBx hs B0 hX hd0 hq1 hq2 Q3 hp2 hpm h1 h2 ho
    gi_wp2
    gi_region
    all_goals gi_wp2
    all_goals exact FIN.out
  case done =>
    rintro D W hD ⟨hz, hB, b0⟩ hK
    have c0 := Lw.blk_cell b0 0
    simp at c0
    have HK := Lib.hid hK
    have E := Lib.hid (Lw.phiL_fac m 1 (by omega))
    clear b0 hK
    gi_wp2
    refine ⟨by simp, .inl ⟨_, _, rfl, run_takeDeferred HK.out, ?_⟩⟩
    refine ⟨_, results_tmp2 rfl _ _ _, ?_, hB.trans (belowK_b (w := w) (Nat.le_refl _) W D _ _ (by simp at hD; omega) HK.out rfl rfl)⟩
    have := E.out
    rw [Nat.one_mul, Nat.one_mul] at this
    rw [Lw.phiI_nat, ← this]
    rfl
  case stop => intro D k pre W _ _ h; exact h.elim

theorem primes_Phi_bad (n : Int) (w : World) (h : n < 1 ∨ 1048576 < n) :
    Calls Try.prog 36 #[.int .i64 n] w fun e w' => e = .returned (.tuple #[.int .i64 0, .int .i64 2]) ∧ Below w.heap.size w w' := by
  have ho := Lw.outB_true h
  refine (callsIn_wide (n := 4)).1 ?_
  refine callsIn_of_wp_marks Try.func36 rfl trivial ?_ rfl
  simp only [Try.ntmps36, List.size_toArray, List.length_cons, List.length_nil, Nat.reduceAdd, Nat.reduceSub, Array.replicate_succ, Array.replicate_zero, List.push_toArray, List.append_toArray, List.nil_append, List.cons_append]
  gi_wp2_with (refine ⟨trivial, ?_⟩; gi_at_call 58; refine (callsIn_wide.2 (primes_out _ _)).mono ?_; rintro e w' ⟨rfl, rfl⟩)
  exact ⟨_, results_tmp2 rfl _ _ _, rfl, by go_grown⟩
end Go.Proofs.Ytbmoceabbdppeaa
