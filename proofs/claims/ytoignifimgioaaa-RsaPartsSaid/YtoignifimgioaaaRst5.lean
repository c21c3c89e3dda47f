/- crt.Solve. -/
import Derived.Test.YtoignifimgioaaaRst4
import Derived.Test.YtoignifimgioaaaRegS
namespace Lw
open Go Go.RowKit
theorem fits_step {T : List RestT} {A A' a m : Int} (h : ∀ r ∈ T, 1 ≤ r.2) (hA : Fits T A) (h1 : (A' - A) % lcmP T = 0) (h2 : (A' - a % m) % m = 0) : Fits (T ++ [(a, m)]) A' := by
  intro r hr
  rcases List.mem_append.1 hr with hr | hr
  · have d1 := Int.dvd_trans (lcmP_dvd h r hr) (Int.dvd_of_emod_eq_zero h1)
    have d2 := Int.dvd_of_emod_eq_zero (hA r hr)
    have e : A' - r.1 = (A' - A) + (A - r.1) := by omega
    rw [e]; exact Int.emod_eq_zero_of_dvd (Int.dvd_add d1 d2)
  · simp at hr; subst hr
    obtain ⟨q, hq⟩ := emod_sub_q a m
    rw [hq] at h2
    obtain ⟨k, hk⟩ := Int.dvd_of_emod_eq_zero h2
    show (A' - a) % m = 0
    have e : A' - a = 0 + m * (k - q) := by rw [Int.mul_sub]; omega
    rw [e, Int.add_mul_emod_self_left]; rfl
theorem fits_fit {L : List RestT} {A : Int} (hA : Fits L A) : fitB L = true := by
  unfold fitB
  rw [List.all_eq_true]; intro r hr
  rw [List.all_eq_true]; intro s hs
  have d1 := Int.dvd_trans (gcdI_dvd_left r.2 s.2) (Int.dvd_of_emod_eq_zero (hA r hr))
  have d2 := Int.dvd_trans (gcdI_dvd_right r.2 s.2) (Int.dvd_of_emod_eq_zero (hA s hs))
  have e : r.1 - s.1 = (A - s.1) - (A - r.1) := by omega
  rw [decide_eq_true_eq, e]
  exact Int.emod_eq_zero_of_dvd (Int.dvd_sub d2 d1)
theorem fit_next {L : List RestT} {A : Int} {k : Nat} (hk : k < L.length) (h : ∀ r ∈ L, 1 ≤ r.2) (hf : fitB L = true) (hA : Fits (L.take k) A) : (L[k].1 % L[k].2 - A) % gcdI (lcmP (L.take k)) L[k].2 = 0 := by
  have hm := h _ (List.getElem_mem hk)
  have h1 := fit_lcm (L := L.take k) (A := A) (a := L[k].1) (c := L[k].2) (fun r hr => h r (List.mem_of_mem_take hr)) hm hA (fun r hr => by
    have := List.all_eq_true.1 (List.all_eq_true.1 hf r (List.mem_of_mem_take hr)) _ (List.getElem_mem hk)
    simpa using this)
  obtain ⟨q, hq⟩ := emod_sub_q L[k].1 L[k].2
  rw [hq]
  have d1 := Int.dvd_of_emod_eq_zero h1
  have d2 := Int.dvd_trans (gcdI_dvd_right (lcmP (L.take k)) L[k].2) (Int.dvd_mul_right L[k].2 q)
  have e : L[k].1 - L[k].2 * q - A = (L[k].1 - A) - L[k].2 * q := by omega
  rw [e]; exact Int.emod_eq_zero_of_dvd (Int.dvd_sub d1 d2)
theorem rest_ok {L : List RestT} (h : restE L = 0) : L.length ≤ 8 ∧ (∀ r ∈ L, 1 ≤ r.2 ∧ r.2 ≤ 1048576 ∧ -2147483648 ≤ r.1 ∧ r.1 ≤ 2147483648) ∧ ∀ k, k ≤ L.length → lcmP (L.take k) ≤ 2147483648 := by
  unfold restE at h
  split at h
  · simp at h
  split at h
  · simp at h
  split at h
  · simp at h
  rename_i h1 h2 h3
  have h2 : L.any restB = false := by simpa using h2
  have h3 : lcmBig L = false := by simpa using h3
  refine ⟨by omega, fun r hr => ?_, fun k hk => ?_⟩
  · have := List.any_eq_false.1 h2 r hr
    unfold restB at this
    simp at this
    obtain ⟨⟨a, b⟩, c⟩ := this
    have := of_farB_false c
    omega
  · unfold lcmBig at h3
    have := List.any_eq_false.1 h3 k (by simp; omega)
    simpa using this
def SolveP (L : List RestT) (w : World) (e : Ending) (w' : World) : Prop :=
  ((fitB L = true ∧ ∃ A : Int, 0 ≤ A ∧ A < lcmP L ∧ Fits L A ∧ e = .returned (.tuple #[.agg #[.int .i64 A, .int .i64 (lcmP L)], .int .i64 0])) ∨ (fitB L = false ∧ e = .returned (.tuple #[.agg #[.int .i64 0, .int .i64 0], .int .i64 5]))) ∧ Below w.heap.size w w'
end Lw
set_option linter.unusedVariables false
set_option linter.unusedSimpArgs false
namespace Go.Proofs.Ytoignifimgioaaa
open Go.RowKit
set_option maxHeartbeats 1000000 in
theorem crt_Solve_bad (V : Option Addr) (n c : Nat) (L : List Lw.RestT) (w : World) (R : Lw.Rd w 2 V n (Lw.pairsV .i64 .i64 L)) (h : ¬ Lw.restE L = 0) :
    Calls Try.prog 27 #[.slice V n c] w fun e w' => e = .returned (.tuple #[.agg #[.int .i64 0, .int .i64 0], .int .i64 (Lw.restE L)]) ∧ Below w.heap.size w w' := by
  have WR := crt_wrong V n c L _ (R.below (Nat.le_refl _) (Lw.balloc (Below.refl w.heap.size w) (.cells #[.int .i64 0, .int .i64 0] 47)))
  have B0 := Lib.hid (Lw.blk_new w #[.int .i64 0, .int .i64 0] 47)
  have h1 : (Lw.restE L == 0) = false := by simpa using h
  obtain ⟨E, hE⟩ : ∃ E, Lw.restE L = E := ⟨_, rfl⟩
  rw [hE] at WR h1
  rw [hE]
  replace WR := Lib.hid WR
  clear h hE
  go_enter Try.func27, Try.ntmps27
  go_wp2_with fail
  refine WR.out.mono ?_
  rintro e w1 ⟨rfl, hb1⟩
  have C0 := (hb1.block w.heap.size (by simp)).trans B0.out
  have q0 := Lw.blk_cell C0 0; have q1 := Lw.blk_cell C0 1
  have f0 := Lw.blk_free C0 0; have f1 := Lw.blk_free C0 1
  simp at q0 q1
  obtain ⟨_, r0, r1⟩ := Lw.set2c (x := .int .i64 0) (y := .int .i64 0) C0
  have r0 := Lib.hid r0; have r1 := Lib.hid r1
  clear C0
  go_wp2_with fail
  refine bodyPost_ret (v := .tuple #[.agg #[.int .i64 0, .int .i64 0], .int .i64 E]) (by simp only [results, Try.results27]; simp [go_sem, r0.out, r1.out]) rfl ⟨rfl, Lw.bset2 (Lw.bt (Lw.balloc (Below.refl _ _) _) hb1) (Nat.le_refl _) _ _⟩
set_option maxHeartbeats 4000000 in
theorem crt_Solve_ok (U : Option Addr) (n c : Nat) (L : List Lw.RestT) (w : World) (R : Lw.Rd w 2 U n (Lw.pairsV .i64 .i64 L)) (h : Lw.restE L = 0) :
    Calls Try.prog 27 #[.slice U n c] w (Lw.SolveP L w) := by
  have WR := crt_wrong U n c L _ (R.below (Nat.le_refl _) (Lw.balloc (Below.refl w.heap.size w) (.cells #[.int .i64 0, .int .i64 0] 47)))
  have B0 := Lib.hid (Lw.blk_new w #[.int .i64 0, .int .i64 0] 47)
  rw [h] at WR
  replace WR := Lib.hid WR
  obtain ⟨hn8, ok, lb⟩ := Lw.rest_ok h
  have HL := Lib.hid (show L.length = n by have := R.1; rw [Lw.pairsV_length] at this; omega)
  have hn : n ≤ 8 := by have := HL.out; omega
  have OK := Lib.hid ok
  have LB := Lib.hid lb
  have R := Lib.hid R
  clear h hn8 ok lb
  go_enter Try.func27, Try.ntmps27
  go_wp2_with fail
  refine WR.out.mono ?_
  rintro e w1 ⟨rfl, hb1⟩
  have C0 := Lib.hid ((hb1.block w.heap.size (by simp)).trans B0.out)
  have hz1 := hb1.size
  simp at hz1
  have hw1 : w.heap.size < w1.heap.size := by omega
  have hB1 : Below w.heap.size w w1 := Lw.bt (Lw.balloc (Below.refl _ _) _) hb1
  clear hb1 WR B0
  go_wp2_with fail
  go_loopw [7, 8, 18] (fun p o i wr => ∃ k : Nat, ∃ A : Int, k ≤ n ∧ i = .int .i64 (k : Int) ∧ Hid (0 ≤ A ∧ A < Lw.lcmP (L.take k) ∧ Lw.Fits (L.take k) A) ∧ wr.heap[w1.heap.size]? = some (.cells #[.int .i64 A, .int .i64 (Lw.lcmP (L.take k))] 47 (0, 0)) ∧ Below w1.heap.size w1 wr) (fun _ _ i _ => n - (intOf i).toNat)
  case atStart =>
    refine ⟨0, 0, by omega, rfl, ⟨by omega, by show (0 : Int) < 1; omega, by intro r hr; simp at hr⟩, ?_, ?_⟩
    · exact Lw.blk_new w1 _ _
    · exact Lw.balloc (Below.refl _ _) _
  case round =>
    obtain ⟨k, A, k1, rfl, FT, blk, hB⟩ := hrel
    have D0 := (hB.block w.heap.size hw1).trans C0.out
    have l0 := Lw.blk_cell blk 0; have l1 := Lw.blk_cell blk 1
    have fb0 := Lw.blk_free blk 0; have fb1 := Lw.blk_free blk 1
    simp at l0 l1
    have hzb : w1.heap.size < wr.heap.size := Lw.blk_lt blk
    have BLK := Lib.hid blk
    have D := Lib.hid D0
    clear blk D0
    by_cases hlt : k < n
    · have hl : k < L.length := by rw [HL.out]; exact hlt
      obtain ⟨g0, g1⟩ := Lw.pairsV_get (k := .i64) (l := .i64) hl
      obtain ⟨ad, rfl, had, c0, c1⟩ := (R.out.below (Nat.le_refl _) (hB1.trans (hB.mono hB1.size))).at2 hlt g0 g1
      have mb := OK.out _ (List.getElem_mem hl)
      have e0 := Lw.lcmP_take hl
      have lb0 := LB.out k (by omega)
      have lb1 := LB.out (k + 1) (by omega)
      have hpos : ∀ r ∈ L.take k, 1 ≤ r.2 := fun r hr => (OK.out r (List.mem_of_mem_take hr)).1
      have lp0 := Lw.lcmP_pos hpos
      have FN := Lib.hid (fun hf => Lw.fit_next hl (fun r hr => (OK.out r hr).1) hf FT.out.2.2)
      have FSq := Lib.hid (fun (A' : Int) (h1 : (A' - A) % Lw.lcmP (L.take k) = 0) (h2 : (A' - L[k].1 % L[k].2) % L[k].2 = 0) => show Lw.Fits (L.take (k + 1)) A' from by
        rw [List.take_succ_eq_append_getElem hl]
        exact Lw.fits_step (a := L[k].1) (m := L[k].2) hpos FT.out.2.2 h1 h2)
      obtain ⟨⟨a, m⟩, hs⟩ : ∃ s, L[k] = s := ⟨_, rfl⟩
      rw [hs] at c0 c1 mb e0 FN FSq
      simp only at c0 c1 mb e0 FN FSq
      obtain ⟨M, hM⟩ : ∃ M, Lw.lcmP (L.take k) = M := ⟨_, rfl⟩
      obtain ⟨M', hM'⟩ : ∃ M, Lw.lcmP (L.take (k + 1)) = M := ⟨_, rfl⟩
      rw [hM] at lb0 lp0 e0 FN FSq BLK l1 FT
      rw [hM'] at lb1 e0
      obtain ⟨m0, m1, a0, a1⟩ := mb
      obtain ⟨A0, A1, _⟩ := FT.out
      have r0 := Int.emod_nonneg a (by omega : m ≠ 0); have r1 := Int.emod_lt_of_pos a (by omega : 0 < m)
      have MD := Lib.hid (fun w => euclid_Mod a m w (by omega) (by omega))
      obtain ⟨b, hb⟩ : ∃ b, a % m = b := ⟨_, rfl⟩
      rw [hb] at FN FSq r0 r1 MD
      have HM := Lib.hid hM'
      clear hs g0 g1 hpos hM hb hM'
      obtain ⟨X, hX⟩ : ∃ X, wr.alloc (.cells #[.int .i64 a, .int .i64 m] 47) = X := ⟨_, rfl⟩
      have BX := hX ▸ Lw.blk_new wr #[.int .i64 a, .int .i64 m] 47
      have BB := Lib.hid (hX ▸ Lw.blk_alloc BLK.out (.cells #[.int .i64 a, .int .i64 m] 47))
      have hBX : Below w1.heap.size w1 X := by rw [← hX]; exact Lw.balloc hB _
      have hXs : wr.heap.size < X.heap.size := by rw [← hX]; simp
      have hXb : w1.heap.size < X.heap.size := by omega
      have n0 := Lw.blk_cell BX 0; have n1 := Lw.blk_cell BX 1
      have p0 := Lw.blk_cell BB.out 0; have p1 := Lw.blk_cell BB.out 1
      simp at n0 n1 p0 p1
      have HX := Lib.hid hX
      have BXh := Lib.hid BX
      clear BX hX
      by_cases hd : (b - A) % Lw.gcdI M m = 0
      · have JY := fun w => crt_join_yes A M b m w A0 A1 lp0 (by omega) r0 r1 m0 m1 (by omega) hd
        rw [← e0] at JY
        replace JY := Lib.hid JY
        clear hd FN e0
        go_wp2_with fail
        rw [HX.out]
        refine wp_region_held_drew (S := fun w' => w'.cell? ⟨wr.heap.size, 0, none⟩ = some (.int .i64 a) ∧ w'.cell? ⟨wr.heap.size, 1, none⟩ = some (.int .i64 m) ∧ wr.heap.size < w'.heap.size ∧ Below w1.heap.size w1 w') (by kernel_rfl) ⟨n0, n1, hXs, Below.drew hBX⟩ (fun hHeld => ?_)
        (refine Lw.take1 (i := 1) (v := ?_) rfl (by kernel_rfl) (by kernel_rfl) (by kernel_rfl) (fun _ _ _ h => h) (Or.inl ⟨by rfl, ?_⟩) (by assumption) ?_; rotate_left 1; (focus (intro wS hSw; obtain ⟨hS1, hS2, hS3, hS4⟩ := hSw; go_simp <;> with_reducible rfl)); (try simp only [Act.put, List.setIfInBounds_toArray, List.set_cons_zero, List.set_cons_succ]))
        (refine Lw.take1 (i := 2) (v := ?_) rfl (by kernel_rfl) (by kernel_rfl) (by kernel_rfl) (fun _ _ _ h => h) (Or.inl ⟨by rfl, ?_⟩) (by assumption) ?_; rotate_left 1; (focus (intro wS hSw; obtain ⟨hS1, hS2, hS3, hS4⟩ := hSw; go_simp <;> with_reducible rfl)); (try simp only [Act.put, List.setIfInBounds_toArray, List.set_cons_zero, List.set_cons_succ]))
        (refine Lw.take1 (i := 3) (v := ?_) rfl (by kernel_rfl) (by kernel_rfl) (by kernel_rfl) (fun _ _ _ h => h) (Or.inl ⟨by rfl, ?_⟩) (by assumption) ?_; rotate_left 1; (focus (intro wS hSw; obtain ⟨hS1, hS2, hS3, hS4⟩ := hSw; go_simp <;> with_reducible rfl)); (try simp only [Act.put, List.setIfInBounds_toArray, List.set_cons_zero, List.set_cons_succ]))
        (refine Lw.take1 (i := 4) (v := ?_) rfl (by kernel_rfl) (by kernel_rfl) (by kernel_rfl) (fun _ _ _ h => h) (Or.inl ⟨by rfl, ?_⟩) (by assumption) ?_; rotate_left 1; (focus (intro wS hSw; obtain ⟨hS1, hS2, hS3, hS4⟩ := hSw; go_simp <;> with_reducible rfl)); (try simp only [Act.put, List.setIfInBounds_toArray, List.set_cons_zero, List.set_cons_succ]))
        (refine Lw.take1 (i := 6) (v := ?_) rfl (by kernel_rfl) (by kernel_rfl) (by kernel_rfl) (fun _ _ _ h => h) (Or.inl ⟨by rfl, ?_⟩) (by assumption) ?_; rotate_left 1; (focus (intro wS hSw; obtain ⟨hS1, hS2, hS3, hS4⟩ := hSw; go_simp <;> with_reducible rfl)); (try simp only [Act.put, List.setIfInBounds_toArray, List.set_cons_zero, List.set_cons_succ]))
        (refine Lw.take1 (i := 7) (v := ?_) rfl (by kernel_rfl) (by kernel_rfl) (by kernel_rfl) (fun _ _ _ h => h) (Or.inl ⟨by rfl, ?_⟩) (by assumption) ?_; rotate_left 1; (focus (intro wS hSw; obtain ⟨hS1, hS2, hS3, hS4⟩ := hSw; go_simp <;> with_reducible rfl)); (try simp only [Act.put, List.setIfInBounds_toArray, List.set_cons_zero, List.set_cons_succ]))
        have SX : X.drew.cell? ⟨wr.heap.size, 0, none⟩ = some (.int .i64 a) ∧ X.drew.cell? ⟨wr.heap.size, 1, none⟩ = some (.int .i64 m) ∧ wr.heap.size < X.drew.heap.size ∧ Below w1.heap.size w1 X.drew := ⟨n0, n1, hXs, Below.drew hBX⟩
        refine wpAnyH_ready (rs := [0, 5]) (by kernel_rfl) (by simp) ?_
        refine Lw.cons1 (i := 0) rfl (fun K hK => ?_) (Lw.cons1 (i := 5) rfl (fun K hK => ?_) AllReadyH.nil)
        · (go_simp; refine hK.out _ _ ?_ (fun hHeld => ?_); (focus exact SX); clear hK K; (try simp only [Act.put, List.setIfInBounds_toArray, List.set_cons_zero, List.set_cons_succ]))
          refine wpAnyH_ready (rs := [5]) (by kernel_rfl) (by simp) ?_
          refine Lw.cons1 (i := 5) rfl (fun K hK => ?_) AllReadyH.nil
          go_simp
          go_at_call 57
          (with_reducible refine (MD.out _).mono ?_)
          rintro e w' ⟨rfl, rfl⟩
          refine hK.out _ _ SX (fun hHeld => ?_)
          clear hK K
          (try simp only [Act.put, List.setIfInBounds_toArray, List.set_cons_zero, List.set_cons_succ])
          (refine Lw.take1 (i := 8) (v := ?_) rfl (by kernel_rfl) (by kernel_rfl) (by kernel_rfl) (fun _ _ _ h => h) (Or.inl ⟨by rfl, ?_⟩) (by assumption) ?_; rotate_left 1; (focus (intro wS hSw; obtain ⟨hS1, hS2, hS3, hS4⟩ := hSw; go_simp <;> with_reducible rfl)); (try simp only [Act.put, List.setIfInBounds_toArray, List.set_cons_zero, List.set_cons_succ]))
          refine wpAnyH_ready (rs := [9]) (by kernel_rfl) (by simp) ?_
          refine Lw.cons1 (i := 9) rfl (fun K hK => ?_) AllReadyH.nil
          go_simp
          go_at_call 56
          (with_reducible refine (JY.out _).mono ?_)
          rintro e w5 ⟨A', A'0, A'1, A'2, A'3, rfl, hb5⟩
          have SY : w5.cell? ⟨wr.heap.size, 0, none⟩ = some (.int .i64 a) ∧ w5.cell? ⟨wr.heap.size, 1, none⟩ = some (.int .i64 m) ∧ wr.heap.size < w5.heap.size ∧ Below w1.heap.size w1 w5 := ⟨(hb5.cell (p := ⟨wr.heap.size, 0, none⟩) hXs).trans n0, (hb5.cell (p := ⟨wr.heap.size, 1, none⟩) hXs).trans n1, by have := hb5.size; have : X.heap.size ≤ w5.heap.size := this; omega, Lw.bt (Below.drew hBX) hb5⟩
          refine hK.out _ _ SY (fun hHeld => ?_)
          clear hK K
          (try simp only [Act.put, List.setIfInBounds_toArray, List.set_cons_zero, List.set_cons_succ])
          (refine Lw.take1 (i := 10) (v := ?_) rfl (by kernel_rfl) (by kernel_rfl) (by kernel_rfl) (fun _ _ _ h => h) (Or.inl ⟨by rfl, ?_⟩) (by assumption) ?_; rotate_left 1; (focus (intro wS hSw; obtain ⟨hS1, hS2, hS3, hS4⟩ := hSw; go_simp <;> with_reducible rfl)); (try simp only [Act.put, List.setIfInBounds_toArray, List.set_cons_zero, List.set_cons_succ]))
          (refine Lw.take1 (i := 11) (v := ?_) rfl (by kernel_rfl) (by kernel_rfl) (by kernel_rfl) (fun _ _ _ h => h) (Or.inl ⟨by rfl, ?_⟩) (by assumption) ?_; rotate_left 1; (focus (intro wS hSw; obtain ⟨hS1, hS2, hS3, hS4⟩ := hSw; go_simp <;> with_reducible rfl)); (try simp only [Act.put, List.setIfInBounds_toArray, List.set_cons_zero, List.set_cons_succ]))
          (refine Lw.take1 (i := 12) (v := ?_) rfl (by kernel_rfl) (by kernel_rfl) (by kernel_rfl) (fun _ _ _ h => h) (Or.inl ⟨by rfl, ?_⟩) (by assumption) ?_; rotate_left 1; (focus (intro wS hSw; obtain ⟨hS1, hS2, hS3, hS4⟩ := hSw; go_simp <;> with_reducible rfl)); (try simp only [Act.put, List.setIfInBounds_toArray, List.set_cons_zero, List.set_cons_succ]))
          have Y0 := (hb5.block w1.heap.size hXb).trans BB.out
          have y0 := Lw.blk_cell Y0 0; have y1 := Lw.blk_cell Y0 1; have yf0 := Lw.blk_free Y0 0; have yf1 := Lw.blk_free Y0 1
          simp at y0 y1
          refine wpAnyH_ready (rs := [13]) (by kernel_rfl) (by simp) ?_
          refine Lw.cons1 (i := 13) rfl (fun K hK => ?_) AllReadyH.nil
          have Z0 := (Lw.set2c (W := w5) (b := w1.heap.size) (c0 := .int .i64 A) (c1 := .int .i64 M) (x := .int .i64 A') (y := .int .i64 M') (t := 47) Y0).1
          have SZ : ((w5.setCell ⟨w1.heap.size, 0, none⟩ (.int .i64 A')).setCell ⟨w1.heap.size, 1, none⟩ (.int .i64 M')).cell? ⟨wr.heap.size, 0, none⟩ = some (.int .i64 a) ∧ ((w5.setCell ⟨w1.heap.size, 0, none⟩ (.int .i64 A')).setCell ⟨w1.heap.size, 1, none⟩ (.int .i64 M')).cell? ⟨wr.heap.size, 1, none⟩ = some (.int .i64 m) ∧ wr.heap.size < ((w5.setCell ⟨w1.heap.size, 0, none⟩ (.int .i64 A')).setCell ⟨w1.heap.size, 1, none⟩ (.int .i64 M')).heap.size ∧ Below w1.heap.size w1 ((w5.setCell ⟨w1.heap.size, 0, none⟩ (.int .i64 A')).setCell ⟨w1.heap.size, 1, none⟩ (.int .i64 M')) := by
            have W0 := Lw.blk_set_other (Lw.blk_set_other ((hb5.block wr.heap.size hXs).trans BXh.out) (by omega : wr.heap.size ≠ w1.heap.size) 0 (.int .i64 A')) (by omega : wr.heap.size ≠ w1.heap.size) 1 (.int .i64 M')
            have w0 := Lw.blk_cell W0 0; have w1' := Lw.blk_cell W0 1
            exact ⟨by simpa using w0, by simpa using w1', Lw.blk_lt W0, Lw.bset2 SY.2.2.2 (Nat.le_refl _) _ _⟩
          go_simp
          refine hK.out _ _ SZ (fun hHeld => ?_)
          clear hK K
          (try simp only [Act.put, List.setIfInBounds_toArray, List.set_cons_zero, List.set_cons_succ])
          (refine Lw.take1 (i := 14) (v := ?_) rfl (by kernel_rfl) (by kernel_rfl) (by kernel_rfl) (fun _ _ _ h => h) (Or.inl ⟨by rfl, ?_⟩) (by assumption) ?_; rotate_left 1; (focus (intro wS hSw; obtain ⟨hS1, hS2, hS3, hS4⟩ := hSw; go_simp <;> with_reducible rfl)); (try simp only [Act.put, List.setIfInBounds_toArray, List.set_cons_zero, List.set_cons_succ]))
          refine wpAnyH_done (by kernel_rfl) ?_ _
          have FS1 := Lib.hid (FSq.out A' A'2 A'3)
          clear y0 y1 yf0 yf1
          go_wp2
          go_roundw
          case rel => exact ⟨k + 1, A', by omega, by go_num, by rw [HM.out]; exact ⟨A'0, A'1, FS1.out⟩, by rw [HM.out]; exact Z0, SZ.2.2.2⟩
          case measure => simp [intOf]; omega
        · go_simp
          go_at_call 57
          (with_reducible refine (MD.out _).mono ?_)
          rintro e w' ⟨rfl, rfl⟩
          refine hK.out _ _ SX (fun hHeld => ?_)
          clear hK K
          (try simp only [Act.put, List.setIfInBounds_toArray, List.set_cons_zero, List.set_cons_succ])
          (refine Lw.take1 (i := 8) (v := ?_) rfl (by kernel_rfl) (by kernel_rfl) (by kernel_rfl) (fun _ _ _ h => h) (Or.inl ⟨by rfl, ?_⟩) (by assumption) ?_; rotate_left 1; (focus (intro wS hSw; obtain ⟨hS1, hS2, hS3, hS4⟩ := hSw; go_simp <;> with_reducible rfl)); (try simp only [Act.put, List.setIfInBounds_toArray, List.set_cons_zero, List.set_cons_succ]))
          refine wpAnyH_ready (rs := [0]) (by kernel_rfl) (by simp) ?_
          refine Lw.cons1 (i := 0) rfl (fun K hK => ?_) AllReadyH.nil
          (go_simp; refine hK.out _ _ ?_ (fun hHeld => ?_); (focus exact SX); clear hK K; (try simp only [Act.put, List.setIfInBounds_toArray, List.set_cons_zero, List.set_cons_succ]))
          refine wpAnyH_ready (rs := [9]) (by kernel_rfl) (by simp) ?_
          refine Lw.cons1 (i := 9) rfl (fun K hK => ?_) AllReadyH.nil
          go_simp
          go_at_call 56
          (with_reducible refine (JY.out _).mono ?_)
          rintro e w5 ⟨A', A'0, A'1, A'2, A'3, rfl, hb5⟩
          have SY : w5.cell? ⟨wr.heap.size, 0, none⟩ = some (.int .i64 a) ∧ w5.cell? ⟨wr.heap.size, 1, none⟩ = some (.int .i64 m) ∧ wr.heap.size < w5.heap.size ∧ Below w1.heap.size w1 w5 := ⟨(hb5.cell (p := ⟨wr.heap.size, 0, none⟩) hXs).trans n0, (hb5.cell (p := ⟨wr.heap.size, 1, none⟩) hXs).trans n1, by have := hb5.size; have : X.heap.size ≤ w5.heap.size := this; omega, Lw.bt (Below.drew hBX) hb5⟩
          refine hK.out _ _ SY (fun hHeld => ?_)
          clear hK K
          (try simp only [Act.put, List.setIfInBounds_toArray, List.set_cons_zero, List.set_cons_succ])
          (refine Lw.take1 (i := 10) (v := ?_) rfl (by kernel_rfl) (by kernel_rfl) (by kernel_rfl) (fun _ _ _ h => h) (Or.inl ⟨by rfl, ?_⟩) (by assumption) ?_; rotate_left 1; (focus (intro wS hSw; obtain ⟨hS1, hS2, hS3, hS4⟩ := hSw; go_simp <;> with_reducible rfl)); (try simp only [Act.put, List.setIfInBounds_toArray, List.set_cons_zero, List.set_cons_succ]))
          (refine Lw.take1 (i := 11) (v := ?_) rfl (by kernel_rfl) (by kernel_rfl) (by kernel_rfl) (fun _ _ _ h => h) (Or.inl ⟨by rfl, ?_⟩) (by assumption) ?_; rotate_left 1; (focus (intro wS hSw; obtain ⟨hS1, hS2, hS3, hS4⟩ := hSw; go_simp <;> with_reducible rfl)); (try simp only [Act.put, List.setIfInBounds_toArray, List.set_cons_zero, List.set_cons_succ]))
          (refine Lw.take1 (i := 12) (v := ?_) rfl (by kernel_rfl) (by kernel_rfl) (by kernel_rfl) (fun _ _ _ h => h) (Or.inl ⟨by rfl, ?_⟩) (by assumption) ?_; rotate_left 1; (focus (intro wS hSw; obtain ⟨hS1, hS2, hS3, hS4⟩ := hSw; go_simp <;> with_reducible rfl)); (try simp only [Act.put, List.setIfInBounds_toArray, List.set_cons_zero, List.set_cons_succ]))
          have Y0 := (hb5.block w1.heap.size hXb).trans BB.out
          have y0 := Lw.blk_cell Y0 0; have y1 := Lw.blk_cell Y0 1; have yf0 := Lw.blk_free Y0 0; have yf1 := Lw.blk_free Y0 1
          simp at y0 y1
          refine wpAnyH_ready (rs := [13]) (by kernel_rfl) (by simp) ?_
          refine Lw.cons1 (i := 13) rfl (fun K hK => ?_) AllReadyH.nil
          have Z0 := (Lw.set2c (W := w5) (b := w1.heap.size) (c0 := .int .i64 A) (c1 := .int .i64 M) (x := .int .i64 A') (y := .int .i64 M') (t := 47) Y0).1
          have SZ : ((w5.setCell ⟨w1.heap.size, 0, none⟩ (.int .i64 A')).setCell ⟨w1.heap.size, 1, none⟩ (.int .i64 M')).cell? ⟨wr.heap.size, 0, none⟩ = some (.int .i64 a) ∧ ((w5.setCell ⟨w1.heap.size, 0, none⟩ (.int .i64 A')).setCell ⟨w1.heap.size, 1, none⟩ (.int .i64 M')).cell? ⟨wr.heap.size, 1, none⟩ = some (.int .i64 m) ∧ wr.heap.size < ((w5.setCell ⟨w1.heap.size, 0, none⟩ (.int .i64 A')).setCell ⟨w1.heap.size, 1, none⟩ (.int .i64 M')).heap.size ∧ Below w1.heap.size w1 ((w5.setCell ⟨w1.heap.size, 0, none⟩ (.int .i64 A')).setCell ⟨w1.heap.size, 1, none⟩ (.int .i64 M')) := by
            have W0 := Lw.blk_set_other (Lw.blk_set_other ((hb5.block wr.heap.size hXs).trans BXh.out) (by omega : wr.heap.size ≠ w1.heap.size) 0 (.int .i64 A')) (by omega : wr.heap.size ≠ w1.heap.size) 1 (.int .i64 M')
            have w0 := Lw.blk_cell W0 0; have w1' := Lw.blk_cell W0 1
            exact ⟨by simpa using w0, by simpa using w1', Lw.blk_lt W0, Lw.bset2 SY.2.2.2 (Nat.le_refl _) _ _⟩
          go_simp
          refine hK.out _ _ SZ (fun hHeld => ?_)
          clear hK K
          (try simp only [Act.put, List.setIfInBounds_toArray, List.set_cons_zero, List.set_cons_succ])
          (refine Lw.take1 (i := 14) (v := ?_) rfl (by kernel_rfl) (by kernel_rfl) (by kernel_rfl) (fun _ _ _ h => h) (Or.inl ⟨by rfl, ?_⟩) (by assumption) ?_; rotate_left 1; (focus (intro wS hSw; obtain ⟨hS1, hS2, hS3, hS4⟩ := hSw; go_simp <;> with_reducible rfl)); (try simp only [Act.put, List.setIfInBounds_toArray, List.set_cons_zero, List.set_cons_succ]))
          refine wpAnyH_done (by kernel_rfl) ?_ _
          have FS1 := Lib.hid (FSq.out A' A'2 A'3)
          clear y0 y1 yf0 yf1
          go_wp2
          go_roundw
          case rel => exact ⟨k + 1, A', by omega, by go_num, by rw [HM.out]; exact ⟨A'0, A'1, FS1.out⟩, by rw [HM.out]; exact Z0, SZ.2.2.2⟩
          case measure => simp [intOf]; omega

      · have JN := Lib.hid (fun w => crt_join_no A M b m w A0 A1 lp0 (by omega) r0 r1 m0 m1 hd)
        have NF := Lib.hid (show Lw.fitB L = false from by rcases hf : Lw.fitB L with _ | _; rfl; exact absurd (FN.out hf) hd)
        clear hd FN e0
        go_wp2_with fail
        rw [HX.out]
        refine wp_region_held_drew (S := fun w' => w'.cell? ⟨wr.heap.size, 0, none⟩ = some (.int .i64 a) ∧ w'.cell? ⟨wr.heap.size, 1, none⟩ = some (.int .i64 m) ∧ wr.heap.size < w'.heap.size ∧ Below w1.heap.size w1 w') (by kernel_rfl) ⟨n0, n1, hXs, Below.drew hBX⟩ (fun hHeld => ?_)
        (refine Lw.take1 (i := 1) (v := ?_) rfl (by kernel_rfl) (by kernel_rfl) (by kernel_rfl) (fun _ _ _ h => h) (Or.inl ⟨by rfl, ?_⟩) (by assumption) ?_; rotate_left 1; (focus (intro wS hSw; obtain ⟨hS1, hS2, hS3, hS4⟩ := hSw; go_simp <;> with_reducible rfl)); (try simp only [Act.put, List.setIfInBounds_toArray, List.set_cons_zero, List.set_cons_succ]))
        (refine Lw.take1 (i := 2) (v := ?_) rfl (by kernel_rfl) (by kernel_rfl) (by kernel_rfl) (fun _ _ _ h => h) (Or.inl ⟨by rfl, ?_⟩) (by assumption) ?_; rotate_left 1; (focus (intro wS hSw; obtain ⟨hS1, hS2, hS3, hS4⟩ := hSw; go_simp <;> with_reducible rfl)); (try simp only [Act.put, List.setIfInBounds_toArray, List.set_cons_zero, List.set_cons_succ]))
        (refine Lw.take1 (i := 3) (v := ?_) rfl (by kernel_rfl) (by kernel_rfl) (by kernel_rfl) (fun _ _ _ h => h) (Or.inl ⟨by rfl, ?_⟩) (by assumption) ?_; rotate_left 1; (focus (intro wS hSw; obtain ⟨hS1, hS2, hS3, hS4⟩ := hSw; go_simp <;> with_reducible rfl)); (try simp only [Act.put, List.setIfInBounds_toArray, List.set_cons_zero, List.set_cons_succ]))
        (refine Lw.take1 (i := 4) (v := ?_) rfl (by kernel_rfl) (by kernel_rfl) (by kernel_rfl) (fun _ _ _ h => h) (Or.inl ⟨by rfl, ?_⟩) (by assumption) ?_; rotate_left 1; (focus (intro wS hSw; obtain ⟨hS1, hS2, hS3, hS4⟩ := hSw; go_simp <;> with_reducible rfl)); (try simp only [Act.put, List.setIfInBounds_toArray, List.set_cons_zero, List.set_cons_succ]))
        (refine Lw.take1 (i := 6) (v := ?_) rfl (by kernel_rfl) (by kernel_rfl) (by kernel_rfl) (fun _ _ _ h => h) (Or.inl ⟨by rfl, ?_⟩) (by assumption) ?_; rotate_left 1; (focus (intro wS hSw; obtain ⟨hS1, hS2, hS3, hS4⟩ := hSw; go_simp <;> with_reducible rfl)); (try simp only [Act.put, List.setIfInBounds_toArray, List.set_cons_zero, List.set_cons_succ]))
        (refine Lw.take1 (i := 7) (v := ?_) rfl (by kernel_rfl) (by kernel_rfl) (by kernel_rfl) (fun _ _ _ h => h) (Or.inl ⟨by rfl, ?_⟩) (by assumption) ?_; rotate_left 1; (focus (intro wS hSw; obtain ⟨hS1, hS2, hS3, hS4⟩ := hSw; go_simp <;> with_reducible rfl)); (try simp only [Act.put, List.setIfInBounds_toArray, List.set_cons_zero, List.set_cons_succ]))
        have SX : X.drew.cell? ⟨wr.heap.size, 0, none⟩ = some (.int .i64 a) ∧ X.drew.cell? ⟨wr.heap.size, 1, none⟩ = some (.int .i64 m) ∧ wr.heap.size < X.drew.heap.size ∧ Below w1.heap.size w1 X.drew := ⟨n0, n1, hXs, Below.drew hBX⟩
        refine wpAnyH_ready (rs := [0, 5]) (by kernel_rfl) (by simp) ?_
        refine Lw.cons1 (i := 0) rfl (fun K hK => ?_) (Lw.cons1 (i := 5) rfl (fun K hK => ?_) AllReadyH.nil)
        · (go_simp; refine hK.out _ _ ?_ (fun hHeld => ?_); (focus exact SX); clear hK K; (try simp only [Act.put, List.setIfInBounds_toArray, List.set_cons_zero, List.set_cons_succ]))
          refine wpAnyH_ready (rs := [5]) (by kernel_rfl) (by simp) ?_
          refine Lw.cons1 (i := 5) rfl (fun K hK => ?_) AllReadyH.nil
          go_simp
          go_at_call 57
          (with_reducible refine (MD.out _).mono ?_)
          rintro e w' ⟨rfl, rfl⟩
          refine hK.out _ _ SX (fun hHeld => ?_)
          clear hK K
          (try simp only [Act.put, List.setIfInBounds_toArray, List.set_cons_zero, List.set_cons_succ])
          (refine Lw.take1 (i := 8) (v := ?_) rfl (by kernel_rfl) (by kernel_rfl) (by kernel_rfl) (fun _ _ _ h => h) (Or.inl ⟨by rfl, ?_⟩) (by assumption) ?_; rotate_left 1; (focus (intro wS hSw; obtain ⟨hS1, hS2, hS3, hS4⟩ := hSw; go_simp <;> with_reducible rfl)); (try simp only [Act.put, List.setIfInBounds_toArray, List.set_cons_zero, List.set_cons_succ]))
          refine wpAnyH_ready (rs := [9]) (by kernel_rfl) (by simp) ?_
          refine Lw.cons1 (i := 9) rfl (fun K hK => ?_) AllReadyH.nil
          go_simp
          go_at_call 56
          (with_reducible refine (JN.out _).mono ?_)
          rintro e w5 ⟨rfl, hb5⟩
          have SY : w5.cell? ⟨wr.heap.size, 0, none⟩ = some (.int .i64 a) ∧ w5.cell? ⟨wr.heap.size, 1, none⟩ = some (.int .i64 m) ∧ wr.heap.size < w5.heap.size ∧ Below w1.heap.size w1 w5 := ⟨(hb5.cell (p := ⟨wr.heap.size, 0, none⟩) hXs).trans n0, (hb5.cell (p := ⟨wr.heap.size, 1, none⟩) hXs).trans n1, by have := hb5.size; have : X.heap.size ≤ w5.heap.size := this; omega, Lw.bt (Below.drew hBX) hb5⟩
          refine hK.out _ _ SY (fun hHeld => ?_)
          clear hK K
          (try simp only [Act.put, List.setIfInBounds_toArray, List.set_cons_zero, List.set_cons_succ])
          (refine Lw.take1 (i := 10) (v := ?_) rfl (by kernel_rfl) (by kernel_rfl) (by kernel_rfl) (fun _ _ _ h => h) (Or.inl ⟨by rfl, ?_⟩) (by assumption) ?_; rotate_left 1; (focus (intro wS hSw; obtain ⟨hS1, hS2, hS3, hS4⟩ := hSw; go_simp <;> with_reducible rfl)); (try simp only [Act.put, List.setIfInBounds_toArray, List.set_cons_zero, List.set_cons_succ]))
          (refine Lw.take1 (i := 11) (v := ?_) rfl (by kernel_rfl) (by kernel_rfl) (by kernel_rfl) (fun _ _ _ h => h) (Or.inl ⟨by rfl, ?_⟩) (by assumption) ?_; rotate_left 1; (focus (intro wS hSw; obtain ⟨hS1, hS2, hS3, hS4⟩ := hSw; go_simp <;> with_reducible rfl)); (try simp only [Act.put, List.setIfInBounds_toArray, List.set_cons_zero, List.set_cons_succ]))
          (refine Lw.take1 (i := 12) (v := ?_) rfl (by kernel_rfl) (by kernel_rfl) (by kernel_rfl) (fun _ _ _ h => h) (Or.inl ⟨by rfl, ?_⟩) (by assumption) ?_; rotate_left 1; (focus (intro wS hSw; obtain ⟨hS1, hS2, hS3, hS4⟩ := hSw; go_simp <;> with_reducible rfl)); (try simp only [Act.put, List.setIfInBounds_toArray, List.set_cons_zero, List.set_cons_succ]))
          have Y0 := (hb5.block w1.heap.size hXb).trans BB.out
          have y0 := Lw.blk_cell Y0 0; have y1 := Lw.blk_cell Y0 1; have yf0 := Lw.blk_free Y0 0; have yf1 := Lw.blk_free Y0 1
          simp at y0 y1
          refine wpAnyH_ready (rs := [13]) (by kernel_rfl) (by simp) ?_
          refine Lw.cons1 (i := 13) rfl (fun K hK => ?_) AllReadyH.nil
          have SZ : ((w5.setCell ⟨w1.heap.size, 0, none⟩ (.int .i64 0)).setCell ⟨w1.heap.size, 1, none⟩ (.int .i64 0)).cell? ⟨wr.heap.size, 0, none⟩ = some (.int .i64 a) ∧ ((w5.setCell ⟨w1.heap.size, 0, none⟩ (.int .i64 0)).setCell ⟨w1.heap.size, 1, none⟩ (.int .i64 0)).cell? ⟨wr.heap.size, 1, none⟩ = some (.int .i64 m) ∧ wr.heap.size < ((w5.setCell ⟨w1.heap.size, 0, none⟩ (.int .i64 0)).setCell ⟨w1.heap.size, 1, none⟩ (.int .i64 0)).heap.size ∧ Below w1.heap.size w1 ((w5.setCell ⟨w1.heap.size, 0, none⟩ (.int .i64 0)).setCell ⟨w1.heap.size, 1, none⟩ (.int .i64 0)) := by
            have W0 := Lw.blk_set_other (Lw.blk_set_other ((hb5.block wr.heap.size hXs).trans BXh.out) (by omega : wr.heap.size ≠ w1.heap.size) 0 (.int .i64 0)) (by omega : wr.heap.size ≠ w1.heap.size) 1 (.int .i64 0)
            have w0 := Lw.blk_cell W0 0; have w1' := Lw.blk_cell W0 1
            exact ⟨by simpa using w0, by simpa using w1', Lw.blk_lt W0, Lw.bset2 SY.2.2.2 (Nat.le_refl _) _ _⟩
          go_simp
          refine hK.out _ _ SZ (fun hHeld => ?_)
          clear hK K
          (try simp only [Act.put, List.setIfInBounds_toArray, List.set_cons_zero, List.set_cons_succ])
          (refine Lw.take1 (i := 14) (v := ?_) rfl (by kernel_rfl) (by kernel_rfl) (by kernel_rfl) (fun _ _ _ h => h) (Or.inl ⟨by rfl, ?_⟩) (by assumption) ?_; rotate_left 1; (focus (intro wS hSw; obtain ⟨hS1, hS2, hS3, hS4⟩ := hSw; go_simp <;> with_reducible rfl)); (try simp only [Act.put, List.setIfInBounds_toArray, List.set_cons_zero, List.set_cons_succ]))
          refine wpAnyH_done (by kernel_rfl) ?_ _
          obtain ⟨Q, hQ⟩ : ∃ Q, (w5.setCell ⟨w1.heap.size, 0, none⟩ (.int .i64 0)).setCell ⟨w1.heap.size, 1, none⟩ (.int .i64 0) = Q := ⟨_, rfl⟩
          rw [hQ] at SZ
          rw [hQ]
          have QD := (SZ.2.2.2.block w.heap.size hw1).trans C0.out
          have q0 := Lw.blk_cell QD 0; have q1 := Lw.blk_cell QD 1; have qf0 := Lw.blk_free QD 0; have qf1 := Lw.blk_free QD 1
          simp at q0 q1
          obtain ⟨_, r0, r1⟩ := Lw.set2c (x := .int .i64 0) (y := .int .i64 0) QD
          have r0 := Lib.hid r0; have r1 := Lib.hid r1
          have HB := Lib.hid (Lw.bset2 (hB1.trans (SZ.2.2.2.mono hB1.size)) (Nat.le_refl w.heap.size) (.int .i64 0) (.int .i64 0))
          clear hQ QD y0 y1 yf0 yf1
          go_wp2_with fail
          refine bodyPost_ret (v := .tuple #[.agg #[.int .i64 0, .int .i64 0], .int .i64 5]) (by simp only [results, Try.results27]; simp [go_sem, r0.out, r1.out]) rfl ⟨.inr ⟨NF.out, rfl⟩, HB.out⟩
        · go_simp
          go_at_call 57
          (with_reducible refine (MD.out _).mono ?_)
          rintro e w' ⟨rfl, rfl⟩
          refine hK.out _ _ SX (fun hHeld => ?_)
          clear hK K
          (try simp only [Act.put, List.setIfInBounds_toArray, List.set_cons_zero, List.set_cons_succ])
          (refine Lw.take1 (i := 8) (v := ?_) rfl (by kernel_rfl) (by kernel_rfl) (by kernel_rfl) (fun _ _ _ h => h) (Or.inl ⟨by rfl, ?_⟩) (by assumption) ?_; rotate_left 1; (focus (intro wS hSw; obtain ⟨hS1, hS2, hS3, hS4⟩ := hSw; go_simp <;> with_reducible rfl)); (try simp only [Act.put, List.setIfInBounds_toArray, List.set_cons_zero, List.set_cons_succ]))
          refine wpAnyH_ready (rs := [0]) (by kernel_rfl) (by simp) ?_
          refine Lw.cons1 (i := 0) rfl (fun K hK => ?_) AllReadyH.nil
          (go_simp; refine hK.out _ _ ?_ (fun hHeld => ?_); (focus exact SX); clear hK K; (try simp only [Act.put, List.setIfInBounds_toArray, List.set_cons_zero, List.set_cons_succ]))
          refine wpAnyH_ready (rs := [9]) (by kernel_rfl) (by simp) ?_
          refine Lw.cons1 (i := 9) rfl (fun K hK => ?_) AllReadyH.nil
          go_simp
          go_at_call 56
          (with_reducible refine (JN.out _).mono ?_)
          rintro e w5 ⟨rfl, hb5⟩
          have SY : w5.cell? ⟨wr.heap.size, 0, none⟩ = some (.int .i64 a) ∧ w5.cell? ⟨wr.heap.size, 1, none⟩ = some (.int .i64 m) ∧ wr.heap.size < w5.heap.size ∧ Below w1.heap.size w1 w5 := ⟨(hb5.cell (p := ⟨wr.heap.size, 0, none⟩) hXs).trans n0, (hb5.cell (p := ⟨wr.heap.size, 1, none⟩) hXs).trans n1, by have := hb5.size; have : X.heap.size ≤ w5.heap.size := this; omega, Lw.bt (Below.drew hBX) hb5⟩
          refine hK.out _ _ SY (fun hHeld => ?_)
          clear hK K
          (try simp only [Act.put, List.setIfInBounds_toArray, List.set_cons_zero, List.set_cons_succ])
          (refine Lw.take1 (i := 10) (v := ?_) rfl (by kernel_rfl) (by kernel_rfl) (by kernel_rfl) (fun _ _ _ h => h) (Or.inl ⟨by rfl, ?_⟩) (by assumption) ?_; rotate_left 1; (focus (intro wS hSw; obtain ⟨hS1, hS2, hS3, hS4⟩ := hSw; go_simp <;> with_reducible rfl)); (try simp only [Act.put, List.setIfInBounds_toArray, List.set_cons_zero, List.set_cons_succ]))
          (refine Lw.take1 (i := 11) (v := ?_) rfl (by kernel_rfl) (by kernel_rfl) (by kernel_rfl) (fun _ _ _ h => h) (Or.inl ⟨by rfl, ?_⟩) (by assumption) ?_; rotate_left 1; (focus (intro wS hSw; obtain ⟨hS1, hS2, hS3, hS4⟩ := hSw; go_simp <;> with_reducible rfl)); (try simp only [Act.put, List.setIfInBounds_toArray, List.set_cons_zero, List.set_cons_succ]))
          (refine Lw.take1 (i := 12) (v := ?_) rfl (by kernel_rfl) (by kernel_rfl) (by kernel_rfl) (fun _ _ _ h => h) (Or.inl ⟨by rfl, ?_⟩) (by assumption) ?_; rotate_left 1; (focus (intro wS hSw; obtain ⟨hS1, hS2, hS3, hS4⟩ := hSw; go_simp <;> with_reducible rfl)); (try simp only [Act.put, List.setIfInBounds_toArray, List.set_cons_zero, List.set_cons_succ]))
          have Y0 := (hb5.block w1.heap.size hXb).trans BB.out
          have y0 := Lw.blk_cell Y0 0; have y1 := Lw.blk_cell Y0 1; have yf0 := Lw.blk_free Y0 0; have yf1 := Lw.blk_free Y0 1
          simp at y0 y1
          refine wpAnyH_ready (rs := [13]) (by kernel_rfl) (by simp) ?_
          refine Lw.cons1 (i := 13) rfl (fun K hK => ?_) AllReadyH.nil
          have SZ : ((w5.setCell ⟨w1.heap.size, 0, none⟩ (.int .i64 0)).setCell ⟨w1.heap.size, 1, none⟩ (.int .i64 0)).cell? ⟨wr.heap.size, 0, none⟩ = some (.int .i64 a) ∧ ((w5.setCell ⟨w1.heap.size, 0, none⟩ (.int .i64 0)).setCell ⟨w1.heap.size, 1, none⟩ (.int .i64 0)).cell? ⟨wr.heap.size, 1, none⟩ = some (.int .i64 m) ∧ wr.heap.size < ((w5.setCell ⟨w1.heap.size, 0, none⟩ (.int .i64 0)).setCell ⟨w1.heap.size, 1, none⟩ (.int .i64 0)).heap.size ∧ Below w1.heap.size w1 ((w5.setCell ⟨w1.heap.size, 0, none⟩ (.int .i64 0)).setCell ⟨w1.heap.size, 1, none⟩ (.int .i64 0)) := by
            have W0 := Lw.blk_set_other (Lw.blk_set_other ((hb5.block wr.heap.size hXs).trans BXh.out) (by omega : wr.heap.size ≠ w1.heap.size) 0 (.int .i64 0)) (by omega : wr.heap.size ≠ w1.heap.size) 1 (.int .i64 0)
            have w0 := Lw.blk_cell W0 0; have w1' := Lw.blk_cell W0 1
            exact ⟨by simpa using w0, by simpa using w1', Lw.blk_lt W0, Lw.bset2 SY.2.2.2 (Nat.le_refl _) _ _⟩
          go_simp
          refine hK.out _ _ SZ (fun hHeld => ?_)
          clear hK K
          (try simp only [Act.put, List.setIfInBounds_toArray, List.set_cons_zero, List.set_cons_succ])
          (refine Lw.take1 (i := 14) (v := ?_) rfl (by kernel_rfl) (by kernel_rfl) (by kernel_rfl) (fun _ _ _ h => h) (Or.inl ⟨by rfl, ?_⟩) (by assumption) ?_; rotate_left 1; (focus (intro wS hSw; obtain ⟨hS1, hS2, hS3, hS4⟩ := hSw; go_simp <;> with_reducible rfl)); (try simp only [Act.put, List.setIfInBounds_toArray, List.set_cons_zero, List.set_cons_succ]))
          refine wpAnyH_done (by kernel_rfl) ?_ _
          obtain ⟨Q, hQ⟩ : ∃ Q, (w5.setCell ⟨w1.heap.size, 0, none⟩ (.int .i64 0)).setCell ⟨w1.heap.size, 1, none⟩ (.int .i64 0) = Q := ⟨_, rfl⟩
          rw [hQ] at SZ
          rw [hQ]
          have QD := (SZ.2.2.2.block w.heap.size hw1).trans C0.out
          have q0 := Lw.blk_cell QD 0; have q1 := Lw.blk_cell QD 1; have qf0 := Lw.blk_free QD 0; have qf1 := Lw.blk_free QD 1
          simp at q0 q1
          obtain ⟨_, r0, r1⟩ := Lw.set2c (x := .int .i64 0) (y := .int .i64 0) QD
          have r0 := Lib.hid r0; have r1 := Lib.hid r1
          have HB := Lib.hid (Lw.bset2 (hB1.trans (SZ.2.2.2.mono hB1.size)) (Nat.le_refl w.heap.size) (.int .i64 0) (.int .i64 0))
          clear hQ QD y0 y1 yf0 yf1
          go_wp2_with fail
          refine bodyPost_ret (v := .tuple #[.agg #[.int .i64 0, .int .i64 0], .int .i64 5]) (by simp only [results, Try.results27]; simp [go_sem, r0.out, r1.out]) rfl ⟨.inr ⟨NF.out, rfl⟩, HB.out⟩
    · obtain rfl : k = n := by omega
      have hk : L.take k = L := List.take_of_length_le (by rw [HL.out]; omega)
      rw [hk] at FT l1 BLK
      obtain ⟨A0, A1, FA⟩ := FT.out
      have FA1 := Lib.hid FA
      have q0 := Lw.blk_cell D.out 0; have q1 := Lw.blk_cell D.out 1
      have f0 := Lw.blk_free D.out 0; have f1 := Lw.blk_free D.out 1
      simp at q0 q1
      have hzw : w.heap.size < wr.heap.size := by omega
      obtain ⟨_, r0, r1⟩ := Lw.set2c (x := .int .i64 A) (y := .int .i64 (Lw.lcmP L)) D.out
      have r0 := Lib.hid r0; have r1 := Lib.hid r1
      clear hk FA
      go_wp2_with fail
      refine bodyPost_ret (v := .tuple #[.agg #[.int .i64 A, .int .i64 (Lw.lcmP L)], .int .i64 0]) (by simp only [results, Try.results27]; simp [go_sem, r0.out, r1.out]) rfl ⟨.inl ⟨Lw.fits_fit FA1.out, A, A0, A1, FA1.out, rfl⟩, Lw.bset2 (hB1.trans (hB.mono hB1.size)) (Nat.le_refl _) _ _⟩
end Go.Proofs.Ytoignifimgioaaa
