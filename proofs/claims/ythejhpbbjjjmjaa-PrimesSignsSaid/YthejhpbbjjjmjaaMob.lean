/- Contracts of primes.Mobius and of the reference's Mobius. -/
import Derived.Test.YthejhpbbjjjmjaaIs
import Derived.Test.YthejhpbbjjjmjaaFacRef
import Derived.Test.YthejhpbbjjjmjaaCnt
namespace Lw
def negP (k : Nat) : Int := if k % 2 = 1 then -1 else 1
theorem negP_succ (k : Nat) : negP (k + 1) = -negP k := by unfold negP; split <;> split <;> omega
theorem negP_bd (k : Nat) : -1 ≤ negP k ∧ negP k ≤ 1 := by unfold negP; split <;> omega
def lone (l : List (Nat × Nat)) : Bool := l.all fun x => decide (x.2 ≤ 1)
def mobI (n : Nat) : Int := if lone (fac n) = true then negP (fac n).length else 0
theorem mobI_lone {n : Nat} (h : lone (fac n) = true) : mobI n = negP (fac n).length := if_pos h
theorem mobI_not {n : Nat} {x : Nat × Nat} (h : x ∈ fac n) (hx : 1 < x.2) : mobI n = 0 := by
  unfold mobI
  rw [if_neg]
  unfold lone
  rw [List.all_eq_true]
  intro e
  have := e x h
  simp at this; omega
theorem lone_snoc {l : List (Nat × Nat)} {x : Nat × Nat} (h : lone l = true) (hx : ¬ 1 < x.2) : lone (l ++ [x]) = true := by
  unfold lone at *; rw [List.all_append, h]; simp; omega
end Lw
set_option linter.unusedVariables false
set_option linter.unusedSimpArgs false
namespace Go.Proofs.Ythejhpbbjjjmjaa
open Go.RowKit
open Go.Shelf
attribute [local go_sem] Oper.semAt_some
theorem mob_end {w W : World} {D : Nat} {m : Nat} {z : Int} {tmps : Array Value} (h1 : W.heap[w.heap.size]? = some (.cells #[.int .i64 z] 3 (0, 0))) (h2 : W.heap[w.heap.size + 1]? = some (.cells #[.int .i64 0] 22 (0, 0))) (hB : Below w.heap.size w W)
    (hK : W.heap[D]? = some (.deferred (some []))) (hd0 : w.heap.size ≤ D) (hd1 : w.heap.size ≠ D) (hd2 : w.heap.size + 1 ≠ D) (ht2 : tmps[2]? = some (.pointer (some ⟨w.heap.size, 0, none⟩))) (ht3 : tmps[3]? = some (.pointer (some ⟨w.heap.size + 1, 0, none⟩))) (hb : z = Lw.mobI m) :
    LeavesInM Fence.wide 4 Try.prog Try.f15 tmps (fun e w' => e = .returned (.tuple #[.int .i64 (Lw.mobI m), .int .i64 0]) ∧ Below w.heap.size w w') [] FrameMode.returning (W.putObj D (Obj.deferred none)) := by
  have g := grownBy_putObj' W D (.deferred none)
  have c1 := Lw.blk_cell (Lw.blk_kept h1 g (fun e => hd1 (by cases e; rfl))) 0
  have c2 := Lw.blk_cell (Lw.blk_kept h2 g (fun e => hd2 (by cases e; rfl))) 0
  simp at c1 c2
  subst hb
  refine ⟨.tuple #[.int .i64 (Lw.mobI m), .int .i64 0], ?_, rfl, hB.trans (belowK_b (w := w) (Nat.le_refl _) W D _ _ hd0 hK rfl rfl)⟩
  simp [results, Try.f15, go_sem, c1, c2, ht2, ht3]
set_option maxHeartbeats 1000000 in
theorem primes_Mobius (n : Int) (w : World) (h1 : 1 ≤ n) (h2 : n ≤ 1048576) :
    Calls Try.prog 15 #[.int .i64 n] w fun e w' => e = .returned (.tuple #[.int .i64 (Lw.mobI n.toNat), .int .i64 0]) ∧ Below w.heap.size w w' := by
  obtain ⟨m, rfl⟩ := Int.eq_ofNat_of_zero_le (by omega : 0 ≤ n)
  simp only [Int.toNat_natCast]
  have ho := Lw.outB_false h1 h2
  refine (callsIn_wide (n := 4)).1 ?_
  refine callsIn_of_wp_marks Try.func15 rfl trivial ?_ rfl
  simp only [Try.ntmps15, List.size_toArray, List.length_cons, List.length_nil, Nat.reduceAdd, Nat.reduceSub, Array.replicate_succ, Array.replicate_zero, List.push_toArray, List.append_toArray, List.nil_append, List.cons_append]
  gi_wp2_with (first | (refine ⟨trivial, ?_⟩; gi_at_call 49; refine (callsIn_wide.2 (primes_out _ _)).mono ?_; rintro e w' ⟨rfl, rfl⟩) | (refine ⟨trivial, ?_⟩; gi_at_call 50; refine (callsIn_wide.2 (primes_powers _ _)).mono ?_; rintro e w' ⟨rfl, rfl⟩))
  refine Lw.wpIn_rangeC rfl (by omega) (gf := 75) (lb := #[.pointer (some ⟨w.heap.size + 1 + 1 + 1, 0, none⟩)]) rfl trivial (enters_of Try.func75 (by kernel_rfl) rfl) (powers1_seq _ _ m _ (by omega) (by omega) (by omega) ?cell) ?lt (fun _ => rfl)
    (fun pre W => Lw.lone pre = true ∧ w.heap.size + 1 + 1 + 1 < W.heap.size ∧ Below w.heap.size w W ∧ W.heap[w.heap.size]? = some (.cells #[.int .i64 0] 3 (0, 0)) ∧ W.heap[w.heap.size + 1]? = some (.cells #[.int .i64 0] 22 (0, 0)) ∧ W.heap[w.heap.size + 1 + 1]? = some (.cells #[.int .i64 (Lw.negP pre.length)] 3 (0, 0)))
    (fun k pre W => (∃ x : Nat × Nat, (x ∈ pre ∧ 1 < x.2 ∧ k = .ret) ∧ W.heap[w.heap.size]? = some (.cells #[.int .i64 0] 3 (0, 0))) ∧ Below w.heap.size w W ∧ W.heap[w.heap.size + 1]? = some (.cells #[.int .i64 0] 22 (0, 0)))
    (Lw.own_and (Lw.own_pure _) (Lw.own_and (Lw.own_size _) (Lw.own_and (Lw.own_below (by simp; omega) (Nat.le_refl _)) (Lw.own_and (Lw.blk_own _ _ _ (fun _ => rfl)) (Lw.own_and (Lw.blk_own _ _ _ (fun _ => rfl)) (Lw.blk_own _ _ (fun pre : List (Nat × Nat) => Obj.cells #[.int .i64 (Lw.negP pre.length)] 3 (0, 0)) (fun _ => rfl)))))))
    (Lw.AbC.and (Lw.abc_pure _) (Lw.AbC.and (Lw.abc_size _) (Lw.AbC.and (Lw.below_abc (by omega) (Nat.le_refl _)) (Lw.AbC.and (Lw.blk_abc (by omega) _) (Lw.AbC.and (Lw.blk_abc (by omega) _) (Lw.blk_abc (by omega) (fun pre : List (Nat × Nat) => Obj.cells #[.int .i64 (Lw.negP pre.length)] 3 (0, 0))))))))
    (fun k => Lw.own_and (Lw.own_ex fun x => Lw.own_and (Lw.own_pure _) (Lw.blk_own _ _ _ (fun _ => rfl))) (Lw.own_and (Lw.own_below (by simp; omega) (Nat.le_refl _)) (Lw.blk_own _ _ _ (fun _ => rfl))))
    (fun k => Lw.AbC.and (Lw.AbC.ex fun x => Lw.AbC.and (Lw.abc_pure _) (Lw.blk_abc (by omega) _)) (Lw.AbC.and (Lw.below_abc (by omega) (Nat.le_refl _)) (Lw.blk_abc (by omega) _)))
    ?h0 (fun x a' W => ∃ Bx, (w.heap.size + 1 + 1 + 1 < Bx ∧ a' = { tmps := #[.int .i64 (m : Int), undef, .pointer (some ⟨w.heap.size, 0, none⟩), .pointer (some ⟨w.heap.size + 1, 0, none⟩), .pointer (some ⟨w.heap.size + 1 + 1, 0, none⟩), .pointer (some ⟨Bx, 0, none⟩), .int .i64 (m : Int), .bool false, .int .i64 (m : Int), .func (.func 75) #[] #[.pointer (some ⟨w.heap.size + 1 + 1 + 1, 0, none⟩)], .agg #[.int .i64 (x.1 : Int), .int .i64 (x.2 : Int)], undef, undef, undef, undef, undef, undef], defers := [] }) ∧ W.heap[Bx]? = some (.cells #[.int .i64 (x.1 : Int), .int .i64 (x.2 : Int)] 65 (0, 0)))
    (fun x a' => Lw.own_ex fun Bx => Lw.own_and (Lw.own_pure _) (Lw.blk_own _ _ (fun _ => _) (fun _ => rfl))) ?assign ?body ?done ?stop
  case cell => exact Lw.blk_new' (by simp) _ _
  case lt => simp
  case h0 => exact ⟨rfl, by simp, by go_grown, Lw.blk_alloc (Lw.blk_alloc (Lw.blk_alloc (Lw.blk_new _ _ _) _) _) _, Lw.blk_alloc (Lw.blk_alloc (Lw.blk_new' (by simp) _ _) _) _, Lw.blk_alloc (Lw.blk_new' (by simp) _ _) _⟩
  case assign =>
    intro l pre x W K hi hK
    have hsz := hi.2.1
    gi_wp2
    obtain ⟨hlo, hz, hB, b0, b1, b2⟩ := hi
    refine hK _ _ ((KeepsOthers.alloc _ _).from _) (Below.heap_alloc _ _ _ ?_) ⟨hlo, by simp; omega, hB.alloc hB.size _, Lw.blk_alloc b0 _, Lw.blk_alloc b1 _, Lw.blk_alloc b2 _⟩ ⟨W.heap.size, ⟨?_, ?_⟩, Lw.blk_new _ _ _⟩
    · exact hsz
    · exact hsz
    · rfl
  case body =>
    rename_i Q1 K1 HK1
    clear HK1 K1 Q1
    rintro l pre x a' W hl ⟨r, hr⟩ ⟨hlo, hz, hB, b0, b1, b2⟩ ⟨Bx, ⟨hBx, rfl⟩, bx⟩ hx
    have c0 := Lw.blk_cell b0 0; have c1 := Lw.blk_cell b1 0; have c2 := Lw.blk_cell b2 0; have cx := Lw.blk_cell bx 1
    have f0 := Lw.blk_free b0 0; have f1 := Lw.blk_free b1 0; have f2 := Lw.blk_free b2 0
    simp at c0 c1 c2 cx
    have B0 := Lib.hid b0; have B1 := Lib.hid b1; have B2 := Lib.hid b2
    have HL := Lib.hid hlo; have HX := Lib.hid hx; have HR := Lib.hid hr
    clear b0 b1 b2 bx hlo hx hr
    obtain ⟨n1, n2⟩ := Lw.negP_bd pre.length
    by_cases hk : 1 < x.2
    · have hk1 : (1 : Int) < (x.2 : Int) := by omega
      gi_wp2
      exact ⟨((KeepsOthers.setCell _ _ _).trans (KeepsOthers.setCell _ _ _)).from _, ⟨x, ⟨by simp, hk, rfl⟩, Lw.blk_set_other (Lw.blk_set_same B0.out 0 _) (by omega) 0 _⟩, (hB.setCell (p := ⟨_, 0, none⟩) (by simp) _).setCell (p := ⟨_, 0, none⟩) (by simp) _, Lw.blk_set_same (Lw.blk_set_other B1.out (by omega) 0 _) 0 _⟩
    · have hk1 : (x.2 : Int) ≤ 1 := by omega
      have S := Lib.hid (Lw.negP_succ pre.length)
      generalize hZ : Lw.negP pre.length = Z at *
      gi_wp2
      refine ⟨(KeepsOthers.setCell _ _ _).from _, Below.heap_setCell W _ _ _ (by simp), Lw.lone_snoc HL.out hk, by simp [World.setCell]; omega, hB.setCell (p := ⟨_, 0, none⟩) (by simp; omega) _, Lw.blk_set_other B0.out (by omega) 0 _, Lw.blk_set_other B1.out (by omega) 0 _, ?_⟩
      have := Lw.blk_set_same B2.out 0 (.int .i64 (-Z))
      rw [List.length_append]
      show _ = some (Obj.cells #[Value.int IntKind.i64 (Lw.negP (pre.length + 1))] _ (0, 0))
      rw [S.out]
      exact this
  case done =>
    rintro D W hD ⟨hlo, hz, hB, b0, b1, b2⟩ hK
    have c0 := Lw.blk_cell b0 0; have c1 := Lw.blk_cell b1 0; have c2 := Lw.blk_cell b2 0
    have f0 := Lw.blk_free b0 0; have f1 := Lw.blk_free b1 0
    simp at c0 c1 c2
    have B0 := Lib.hid b0; have B1 := Lib.hid b1; have HK := Lib.hid hK
    have HL := Lib.hid (Lw.mobI_lone hlo)
    clear b0 b1 b2 hK hlo
    gi_wp2
    refine ⟨by simp, .inl ⟨_, _, rfl, run_takeDeferred (((KeepsOthers.setCell _ _ _).trans (KeepsOthers.setCell _ _ _)).same D _ HK.out rfl), ?_⟩⟩
    have k1 := Lw.blk_set_other (Lw.blk_set_same B0.out 0 (.int .i64 (Lw.negP (Lw.fac m).length))) (by omega : w.heap.size ≠ w.heap.size + 1) 0 (.int .i64 0)
    have k2 := Lw.blk_set_same (Lw.blk_set_other B1.out (by omega : w.heap.size + 1 ≠ w.heap.size) 0 (.int .i64 (Lw.negP (Lw.fac m).length))) 0 (.int .i64 0)
    have hb3 : Below w.heap.size w ((W.setCell ⟨w.heap.size, 0, none⟩ (.int .i64 (Lw.negP (Lw.fac m).length))).setCell ⟨w.heap.size + 1, 0, none⟩ (.int .i64 0)) := (hB.setCell (p := ⟨_, 0, none⟩) (by simp) _).setCell (p := ⟨_, 0, none⟩) (by simp) _
    have hk3 := ((KeepsOthers.setCell W ⟨w.heap.size, 0, none⟩ (.int .i64 (Lw.negP (Lw.fac m).length))).trans (KeepsOthers.setCell _ ⟨w.heap.size + 1, 0, none⟩ (.int .i64 0))).same D _ HK.out rfl
    exact mob_end k1 k2 hb3 hk3 (by simp at hD; omega) (by simp at hD; omega) (by simp at hD; omega) rfl rfl HL.out.symm
  case stop =>
    rintro D k pre W hD hp ⟨⟨x, ⟨hxm, hx2, rfl⟩, b0⟩, hB, b1⟩ hK
    have c0 := Lw.blk_cell b0 0; have c1 := Lw.blk_cell b1 0
    have B0 := Lib.hid b0; have B1 := Lib.hid b1; have HK := Lib.hid hK
    have E := Lib.hid (Lw.mobI_not (hp.subset hxm) hx2)
    clear b0 b1 hK
    gi_wp2
    refine ⟨by simp, .inl ⟨_, _, rfl, run_takeDeferred HK.out, ?_⟩⟩
    exact mob_end B0.out B1.out hB HK.out (by simp at hD; omega) (by simp at hD; omega) (by simp at hD; omega) rfl rfl E.out.symm
theorem primes_Mobius_bad (n : Int) (w : World) (h : n < 1 ∨ 1048576 < n) :
    Calls Try.prog 15 #[.int .i64 n] w fun e w' => e = .returned (.tuple #[.int .i64 0, .int .i64 2]) ∧ Below w.heap.size w w' := by
  have ho := Lw.outB_true h
  refine (callsIn_wide (n := 4)).1 ?_
  refine callsIn_of_wp_marks Try.func15 rfl trivial ?_ rfl
  simp only [Try.ntmps15, List.size_toArray, List.length_cons, List.length_nil, Nat.reduceAdd, Nat.reduceSub, Array.replicate_succ, Array.replicate_zero, List.push_toArray, List.append_toArray, List.nil_append, List.cons_append]
  gi_wp2_with (refine ⟨trivial, ?_⟩; gi_at_call 49; refine (callsIn_wide.2 (primes_out _ _)).mono ?_; rintro e w' ⟨rfl, rfl⟩)
  refine ⟨.tuple #[.int .i64 0, .int .i64 2], ?_, rfl, by go_grown⟩
  simp [results, Try.f15, go_sem]
theorem ref_Mobius (n : Int) (w : World) (h1 : 1 ≤ n) (h2 : n ≤ 1048576) :
    Calls Try.prog 17 #[.int .i64 n] w fun e w' => e = .returned (.int .i64 (Lw.mobI n.toNat)) ∧ Below w.heap.size w w' := by
  obtain ⟨m, rfl⟩ := Int.eq_ofNat_of_zero_le (by omega : 0 ≤ n)
  have C := ref_Factor (m : Int) w h1 h2
  rw [Int.toNat_natCast] at C
  simp only [Int.toNat_natCast]
  obtain ⟨L, hL⟩ : ∃ L, Lw.fac m = L := ⟨_, rfl⟩
  have hpl : Lw.facP m = Lw.preP L := by rw [← hL]; rfl
  have hlen : L.length ≤ m := by rw [← hL]; exact Lw.fac_length_le m
  have HL := Lib.hid hL
  rw [hpl, hL] at C
  have C := Lib.hid C
  clear hL hpl
  go_enter Try.func17, Try.ntmps17
  go_wp2_with (go_at_call 20; refine (C.out).mono ?_; rintro e w1 ⟨A, c, rfl, own, hb⟩; have RD := Lib.hid (Lw.Rd.of_own own); clear own)
  go_loopw [10] (fun i wr => ∃ k : Nat, i = .int .i64 (k : Int) ∧ k ≤ L.length ∧ Hid (Lw.lone (L.take k) = true) ∧ Below w1.heap.size w1 wr) (fun i _ => L.length - (intOf i).toNat)
  case atStart => exact ⟨0, rfl, by omega, rfl, Below.refl _ _⟩
  case round =>
    obtain ⟨k, rfl, k1, H, hBr⟩ := hrel
    by_cases hlt : k < L.length
    · have hlt' : k < (Lw.preP L).length := by simp [Lw.preP]; exact hlt
      obtain ⟨g0, g1⟩ := Lw.pairsV_get (k := .i64) (l := .i64) (zs := Lw.preP L) (i := k) hlt'
      obtain ⟨x, hx⟩ : ∃ x, L[k] = x := ⟨_, rfl⟩
      have hpx : (Lw.preP L)[k] = ((x.1 : Int), (x.2 : Int)) := by simp [Lw.preP, hx]
      rw [hpx] at g0 g1
      obtain ⟨ad, rfl, had, c0, c1⟩ := (RD.out.below (Nat.le_refl _) hBr).at2 hlt g0 g1
      by_cases hk : 1 < x.2
      · have hk1 : (1 : Int) < (x.2 : Int) := by omega
        have E : Hid (0 = Lw.mobI m) := (Lw.mobI_not (by rw [HL.out, ← hx]; exact List.getElem_mem _) hk).symm
        clear g0 g1 hpx hx hlt'
        go_wp2
        go_ret
        exact ⟨Lw.ret_int E.out, Lw.bt hb (hBr.alloc hBr.size _)⟩
      · have hk1 : (x.2 : Int) ≤ 1 := by omega
        have N : Hid (Lw.lone (L.take (k + 1)) = true) := by
          show _ = _
          rw [List.take_succ_eq_append_getElem hlt, hx]; exact Lw.lone_snoc H.out hk
        clear g0 g1 hpx hx hlt'
        go_wp2
        go_roundw
        case rel => exact ⟨k + 1, by go_num, by omega, N, hBr.alloc hBr.size _⟩
        case measure => simp [intOf]; omega
    · obtain rfl : k = L.length := by omega
      have E : Hid (Lw.negP L.length = Lw.mobI m) := by
        have h := H.out
        rw [List.take_length] at h
        have := Lw.mobI_lone (n := m) (by rw [HL.out]; exact h)
        rw [HL.out] at this; exact this.symm
      have hp : ((L.length : Int) % 2 == 1) = true ∧ Hid (Lw.negP L.length = -1) ∨ ((L.length : Int) % 2 == 1) = false ∧ Hid (Lw.negP L.length = 1) := by
        unfold Lw.negP Hid
        by_cases h : L.length % 2 = 1
        · left; rw [if_pos h]; simp; omega
        · right; rw [if_neg h]; simp; omega
      rcases hp with ⟨hp, N⟩ | ⟨hp, N⟩
      all_goals
        go_wp2
        go_ret
        exact ⟨Lw.ret_int (by rw [← E.out, N.out]), Lw.bt hb hBr⟩
end Go.Proofs.Ythejhpbbjjjmjaa
