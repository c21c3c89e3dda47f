/-
  Package parts: a product in shares.
  slices.Repeat of one number.
  parts.Play: what is wrong.
  parts.Play: rows of shares, one for each gate.
-/
import Derived.Test.YtfocpbknckmmaaaKPartsPlays6
import Derived.Test.YtfocpbknckmmaaaKPartsPlays1
set_option linter.unusedVariables false
set_option linter.unusedSimpArgs false
namespace Go.Proofs.Ytfocpbknckmmaaa
open Go.RowKit
theorem CrwR.below {b : Nat} {p t n : Int} {rest : List Int} {w w' : World} (h : CrwR b p t n rest w) (hb : Below w.heap.size w w') : CrwR b p t n rest w' := by
  obtain ⟨RA, rn, rc, h1, h2, h3, h4⟩ := h
  exact ⟨RA, rn, rc, (hb.block b (Lw.blk_lt h1)).trans h1, h2.below (Nat.le_refl _) hb, h3, h4⟩
theorem CrwR.lt {b : Nat} {p t n : Int} {rest : List Int} {w : World} (h : CrwR b p t n rest w) : b < w.heap.size := by
  obtain ⟨RA, rn, rc, h1, _⟩ := h
  exact Lw.blk_lt h1
theorem CrwR.c0 {b : Nat} {p t n : Int} {rest : List Int} {w : World} (h : CrwR b p t n rest w) : w.cell? ⟨b, 0, none⟩ = some (.int .i64 p) := by
  obtain ⟨RA, rn, rc, h1, _⟩ := h
  have := Lw.blk_cell h1 0; simpa using this
theorem CrwR.c2 {b : Nat} {p t n : Int} {rest : List Int} {w : World} (h : CrwR b p t n rest w) : w.cell? ⟨b, 2, none⟩ = some (.int .i64 n) := by
  obtain ⟨RA, rn, rc, h1, _⟩ := h
  have := Lw.blk_cell h1 2; simpa using this
theorem share_at (p x : Int) (t n b used : Nat) (random : List Int) (w : World) (hc : CrwR b p t n (random.drop used) w) (hp : Lw.pprE p = 0) (ht : t ≤ 4) (hn : (n : Int) < p) (x0 : 0 ≤ x) (x1 : x < p) (hr : ∀ y ∈ random, 0 ≤ y ∧ y < p) :
    Calls Try.prog 18 #[.pointer (some ⟨b, 0, none⟩), .int .i64 x] w fun e w' => ∃ C g, e = .returned (.slice C n g) ∧ w'.ownsRow w.heap.size 2 1 (.slice C n g) n (Lw.intsV .i64 (Lw.shrL p x (Lw.takR random used t) n)) ∧ CrwR b p t n (random.drop (used + t)) w' ∧ Lw.Tn b w w' := by
  have h := crowd_share p x t n b (random.drop used) w hc hp ht hn x0 x1 (fun y hy => hr y (List.mem_of_mem_drop hy))
  rwa [Lw.takR_drop, List.drop_drop] at h
theorem weight_at (p t x : Int) (n b : Nat) (rest : List Int) (w : World) (hc : CrwR b p t n rest w) (p1 : 2 ≤ p) (p2 : p ≤ 251) (hp : Lw.primeB p = true) (hn : (n : Int) < p) (x0 : 1 ≤ x) (x1 : x < p) :
    Calls Try.prog 44 #[.pointer (some ⟨b, 0, none⟩), .int .i64 x] w fun e w' => e = .returned (.int .i64 (Lw.wgt p n x)) ∧ Below w.heap.size w w' := by
  obtain ⟨RA, rn, rc, h1, _⟩ := hc
  exact crowd_weight p t x n b RA rn rc w h1 p1 p2 hp hn x0 x1
set_option maxRecDepth 100000 in
set_option maxHeartbeats 4000000 in
theorem crowd_mul (p : Int) (t n b used : Nat) (random : List Int) (A B : Option Addr) (c d : Nat) (a bb : List Int) (w : World) (hc : CrwR b p t n (random.drop used) w) (RA : Lw.Rd w 1 A n (Lw.intsV .i64 a)) (RB : Lw.Rd w 1 B n (Lw.intsV .i64 bb)) (hp : Lw.pprE p = 0) (ht : t ≤ 4) (hn : (n : Int) < p) (hn9 : n ≤ 9) (hr : ∀ y ∈ random, 0 ≤ y ∧ y < p) (ha : ∀ x ∈ a, 0 ≤ x ∧ x < p) (hb : ∀ x ∈ bb, 0 ≤ x ∧ x < p) :
    Calls Try.prog 22 #[.pointer (some ⟨b, 0, none⟩), .slice A n c, .slice B n d] w fun e w' => ∃ C g, e = .returned (.slice C n g) ∧ w'.ownsRow w.heap.size 2 1 (.slice C n g) n (Lw.intsV .i64 (Lw.mulS p n t random (Lw.eaL p (fun x y => x * y) a bb) used n)) ∧ CrwR b p t n (random.drop (used + n * t)) w' ∧ Lw.Tn b w w' := by
  obtain ⟨p1, p2, pp⟩ := Lw.ppr_ok hp
  have la : a.length = n := by have := RA.1; simpa [Lw.intsV] using this
  have PB := Lw.eaL_bd (by omega : 0 < p) (fun x y => x * y) a bb
  have PLn := Lw.eaL_len p (fun x y => x * y) a bb
  rw [la] at PLn
  have EM := Lib.hid (fun W (hB : Below w.heap.size w W) => each_mul p A B n c n d a bb W (RA.below (Nat.le_refl _) hB) (RB.below (Nat.le_refl _) hB) p1 p2 ha hb (by omega) (Nat.le_refl _))
  obtain ⟨prod, hprod⟩ : ∃ z, Lw.eaL p (fun x y => x * y) a bb = z := ⟨_, rfl⟩
  simp only [hprod] at EM PB PLn ⊢
  have MB := Lib.hid (fun k => Lw.mulS_bd (by omega : 0 < p) n t random prod used k)
  have MN := Lib.hid (fun k => Lw.mulS_next p n t random prod used k)
  have M0 : Hid (Lw.mulS p n t random prod used 0 = List.replicate n 0) := rfl
  have SB := Lib.hid (fun x more => Lw.shrL_bd (p := p) (x := x) p1 more n)
  have WB := Lib.hid (fun x => Lw.wgt_bd p1 n x)
  have SH := Lib.hid (fun k x W (hW : CrwR b p t n (random.drop (used + k * t)) W) x0 x1 => share_at p x t n b (used + k * t) random W hW hp ht hn x0 x1 hr)
  have WT := Lib.hid (fun k x W (hW : CrwR b p t n (random.drop (used + k * t)) W) x0 x1 => weight_at p t x n b _ W hW p1 p2 pp hn x0 x1)
  have ES := Lib.hid (fun C1 C2 c1 c2 l1 l2 W R1 R2 h1 h2 wt bw hw w0 w1 => each_sum p C1 C2 n c1 n c2 l1 l2 W R1 R2 p1 p2 h1 h2 (by omega) (Nat.le_refl n) wt bw hw w0 w1)
  have c0 := hc.c0
  have c2 := hc.c2
  have hltb := hc.lt
  have M : ∀ w : World, (Instr.makeSlice 23 (.int .i64 (n : Int)) (.int .i64 (n : Int))).run Try.prog w = .ok (.slice (some ⟨w.heap.size, 0, none⟩) n n) (w.alloc (.cells (List.replicate n (Value.int .i64 0)).toArray 2)) := fun w => Lw.run_mk elPly rfl .i64 .i64 n (by omega) w
  obtain ⟨W, hW⟩ : ∃ W, w.alloc (.cells (Array.replicate n (Value.int .i64 0)) 2) = W := ⟨_, rfl⟩
  have G : W.heap[w.heap.size]? = some (.cells (List.replicate n (Value.int .i64 0)).toArray 2 (0, 0)) := by
    rw [List.toArray_replicate, ← hW]; exact Lw.blk_new w _ _
  have OW : Hid (W.ownsRow w.heap.size 2 1 (.slice (some ⟨w.heap.size, 0, none⟩) n n) n (Lw.intsV .i64 (List.replicate n 0))) := by
    have := Lw.own_blk (n := n) (size := 1) G (by simp) (by omega) (Nat.le_refl _)
    unfold Hid; rw [Lw.intsV, List.map_replicate]; exact this
  have hBW : Below w.heap.size w W := by rw [← hW]; exact Lw.balloc (Below.refl _ _) _
  have hWs : w.heap.size ≤ W.heap.size := hBW.size
  have d0 := (hBW.cell (p := ⟨b, 0, none⟩) hltb).trans c0
  have HW := Lib.hid hW
  have HC := Lib.hid hc
  have PB := Lib.hid PB
  have PLn := Lib.hid PLn
  clear hW hc RA RB ha hb hr la G hprod hp pp
  go_enter Try.func22, Try.ntmps22
  go_wp2_with fail
  rw [HW.out]
  go_wp2_with (go_at_call 20; (with_reducible refine (EM.out _ hBW).mono ?_); rintro e w1 ⟨C1, g1, rfl, own1, hb1⟩)
  have OP1 := Lib.hid own1
  have OW1 := Lib.hid (Lw.ownsBelow OW.out (Nat.le_refl _) hb1)
  have HC1 := Lib.hid ((HC.out.below hBW).below hb1)
  have T1 : Lw.Tn b w w1 := (Lw.Tn.of hBW).trans (Lw.Tn.of hb1)
  clear own1 HC OW EM
  go_loopw [7, 9, 10, 11, 26] (fun out _ _ _ i wr => ∃ (k : Nat) (C : Option Addr) (g : Nat), i = .int .i64 (k : Int) ∧ k ≤ n ∧ out = .slice C n g ∧ wr.ownsRow w.heap.size 2 1 (.slice C n g) n (Lw.intsV .i64 (Lw.mulS p n t random prod used k)) ∧ CrwR b p t n (random.drop (used + k * t)) wr ∧ wr.ownsRow W.heap.size 2 1 (.slice C1 n g1) n (Lw.intsV .i64 prod) ∧ Lw.Tn b w wr) (fun _ _ _ _ i _ => n - (intOf i).toNat)
  case atStart => exact ⟨0, _, _, rfl, by omega, rfl, by rw [M0.out]; exact OW1.out, by rw [Nat.zero_mul, Nat.add_zero]; exact HC1.out, OP1.out, T1⟩
  case round =>
    obtain ⟨k, C, g, rfl, hk, rfl, own, hC, ownP, hT⟩ := hrel
    have hszr := hT.size
    by_cases hlt : k < n
    · have hkl : k < prod.length := by rw [PLn.out]; exact hlt
      have hlt' : (k : Int) < (n : Int) := by omega
      obtain ⟨ad, had, had2, e0⟩ := (Lw.Rd.of_own ownP).at1 hlt (Lw.intsV_get hkl)
      subst had
      obtain ⟨x0, x1⟩ := PB.out _ (List.getElem_mem hkl)
      have MK := MN.out k
      rw [Lw.getD_at' hkl] at MK
      obtain ⟨x, hx⟩ : ∃ z, prod[k] = z := ⟨_, rfl⟩
      rw [hx] at e0 x0 x1 MK
      have WK := Lib.hid (WT.out k ((k : Int) + 1) wr hC (by omega) (by omega))
      have wb := WB.out ((k : Int) + 1)
      obtain ⟨wt, hwt⟩ : ∃ z, Lw.wgt p n ((k : Int) + 1) = z := ⟨_, rfl⟩
      rw [hwt] at WK wb MK
      have MK := Lib.hid MK
      have OWN := Lib.hid own
      have OWP := Lib.hid ownP
      have HC := Lib.hid hC
      clear own ownP hC hx hwt hkl had2
      go_wp2_with (go_at_call 44; (with_reducible refine (WK.out).mono ?_); rintro e w3 ⟨rfl, hb3⟩)
      refine Lw.at_world (fun W4 hW4 => ?_)
      have hB4 : Below wr.heap.size wr W4 := by rw [hW4.out]; exact Lw.balloc hb3 _
      have q1 : W4.cell? ⟨w3.heap.size, 0, none⟩ = some (.int .i64 wt) := by rw [hW4.out]; simp
      have z4 : w3.heap.size < W4.heap.size := by rw [hW4.out]; simp
      have z3 := hb3.size
      have C4 := HC.out.below hB4
      have q0 := C4.c0
      have l4 := C4.lt
      refine wp_region_held_drew (S := fun w' => w'.cell? ⟨b, 0, none⟩ = some (.int .i64 p) ∧ w'.cell? ⟨w3.heap.size, 0, none⟩ = some (.int .i64 wt) ∧ True ∧ True) (by kernel_rfl) (by exact ⟨q0, q1, trivial, trivial⟩) (fun hHeld => ?_)
      (refine Lw.take1 (i := 0) (v := ?_) rfl (by kernel_rfl) (by kernel_rfl) (by kernel_rfl) (fun _ _ _ h => h) (Or.inl ⟨by rfl, ?_⟩) (by assumption) ?_; rotate_left 1; (focus (intro wS hSw; obtain ⟨hS1, hS2, hS3, hS4⟩ := hSw; go_simp <;> with_reducible rfl)); (try simp only [Act.put, List.setIfInBounds_toArray, List.set_cons_zero, List.set_cons_succ]))
      (refine Lw.take1 (i := 1) (v := ?_) rfl (by kernel_rfl) (by kernel_rfl) (by kernel_rfl) (fun _ _ _ h => h) (Or.inl ⟨by rfl, ?_⟩) (by assumption) ?_; rotate_left 1; (focus (intro wS hSw; obtain ⟨hS1, hS2, hS3, hS4⟩ := hSw; go_simp <;> with_reducible rfl)); (try simp only [Act.put, List.setIfInBounds_toArray, List.set_cons_zero, List.set_cons_succ]))
      (refine Lw.take1 (i := 2) (v := ?_) rfl (by kernel_rfl) (by kernel_rfl) (by kernel_rfl) (fun _ _ _ h => h) (Or.inl ⟨by rfl, ?_⟩) (by assumption) ?_; rotate_left 1; (focus (intro wS hSw; obtain ⟨hS1, hS2, hS3, hS4⟩ := hSw; go_simp <;> with_reducible rfl)); (try simp only [Act.put, List.setIfInBounds_toArray, List.set_cons_zero, List.set_cons_succ]))
      (refine Lw.take1 (i := 4) (v := ?_) rfl (by kernel_rfl) (by kernel_rfl) (by kernel_rfl) (fun _ _ _ h => h) (Or.inl ⟨by rfl, ?_⟩) (by assumption) ?_; rotate_left 1; (focus (intro wS hSw; obtain ⟨hS1, hS2, hS3, hS4⟩ := hSw; go_simp <;> with_reducible rfl)); (try simp only [Act.put, List.setIfInBounds_toArray, List.set_cons_zero, List.set_cons_succ]))
      (refine Lw.take1 (i := 5) (v := ?_) rfl (by kernel_rfl) (by kernel_rfl) (by kernel_rfl) (fun _ _ _ h => h) (Or.inl ⟨by rfl, ?_⟩) (by assumption) ?_; rotate_left 1; (focus (intro wS hSw; obtain ⟨hS1, hS2, hS3, hS4⟩ := hSw; go_simp <;> with_reducible rfl)); (try simp only [Act.put, List.setIfInBounds_toArray, List.set_cons_zero, List.set_cons_succ]))
      (refine Lw.take1 (i := 6) (v := ?_) rfl (by kernel_rfl) (by kernel_rfl) (by kernel_rfl) (fun _ _ _ h => h) (Or.inl ⟨by rfl, ?_⟩) (by assumption) ?_; rotate_left 1; (focus (intro wS hSw; obtain ⟨hS1, hS2, hS3, hS4⟩ := hSw; go_simp <;> with_reducible rfl)); (try simp only [Act.put, List.setIfInBounds_toArray, List.set_cons_zero, List.set_cons_succ]))
      (refine Lw.take1 (i := 7) (v := ?_) rfl (by kernel_rfl) (by kernel_rfl) (by kernel_rfl) (fun _ _ _ h => h) (Or.inl ⟨by rfl, ?_⟩) (by assumption) ?_; rotate_left 1; (focus (intro wS hSw; obtain ⟨hS1, hS2, hS3, hS4⟩ := hSw; go_simp <;> with_reducible rfl)); (try simp only [Act.put, List.setIfInBounds_toArray, List.set_cons_zero, List.set_cons_succ]))
      (refine Lw.take1 (i := 8) (v := ?_) rfl (by kernel_rfl) (by kernel_rfl) (by kernel_rfl) (fun _ _ _ h => h) (Or.inl ⟨by rfl, ?_⟩) (by assumption) ?_; rotate_left 1; (focus (intro wS hSw; obtain ⟨hS1, hS2, hS3, hS4⟩ := hSw; go_simp <;> with_reducible rfl)); (try simp only [Act.put, List.setIfInBounds_toArray, List.set_cons_zero, List.set_cons_succ]))
      have hne : ∀ {base : Nat} {v : Value} {m : Nat} {xs : List Value} {W : World}, W.ownsRow base 2 1 v m xs → b < base → v.ownBlock ≠ some b := fun h hb e => by have := (h.lt _ e).1; omega
      have dr4 : Below wr.heap.size wr W4.drew := Below.drew hB4
      (refine wpAnyH_ready (rs := [3]) (by kernel_rfl) (by simp) ?_; refine Lw.cons1 (i := 3) rfl (fun K hK => ?_) AllReadyH.nil; go_simp; go_at_call 18; (with_reducible refine (SH.out k x _ (C4.below (Below.drew (Below.refl _ _))) x0 x1).mono ?_); rintro e w5 ⟨C5, g5, rfl, own5, hC5, hT5⟩; refine hK.out _ _ ?_ (fun hHeld => ?_); (focus exact ⟨hC5.c0, (Lw.cell_of_blk ⟨w3.heap.size, 0, none⟩ (hT5.block w3.heap.size z4 (by omega))).trans q1, trivial, trivial⟩); clear hK K; (try simp only [Act.put, List.setIfInBounds_toArray, List.set_cons_zero, List.set_cons_succ]))
      have q5 := (Lw.cell_of_blk ⟨w3.heap.size, 0, none⟩ (hT5.block w3.heap.size z4 (by omega))).trans q1
      have O5 := Lib.hid (Lw.own_tn (Lw.ownsBelow OWN.out (Nat.le_refl _) dr4) hT5 (hne OWN.out hltb))
      have P5 := Lib.hid (Lw.own_tn (Lw.ownsBelow OWP.out (Nat.le_refl _) dr4) hT5 (hne OWP.out (by omega)))
      have z5 := hT5.size
      have S5 := Lib.hid own5
      have HC5 := Lib.hid hC5
      have l5 := hC5.lt
      have r5 := hC5.c0
      have T5 : Lw.Tn b w w5 := (hT.trans (Lw.Tn.of dr4)).trans hT5
      clear own5 hC5
      (refine wpAnyH_ready (rs := [9]) (by kernel_rfl) (by simp) ?_; refine Lw.cons1 (i := 9) rfl (fun K hK => ?_) AllReadyH.nil; go_simp; go_at_call 20; (with_reducible refine (ES.out C C5 g g5 _ _ w5 (Lw.Rd.of_own O5.out) (Lw.Rd.of_own S5.out) (MB.out k) (SB.out _ _) wt w3.heap.size q5 wb.1 wb.2).mono ?_); rintro e w6 ⟨C6, g6, rfl, own6, hb6⟩; refine hK.out _ _ ?_ (fun hHeld => ?_); (focus exact ⟨(hb6.cell (p := ⟨b, 0, none⟩) l5).trans r5, (hb6.cell (p := ⟨w3.heap.size, 0, none⟩) (show w3.heap.size < w5.heap.size by have : W4.drew.heap.size = W4.heap.size := rfl; omega)).trans q5, trivial, trivial⟩); clear hK K; (try simp only [Act.put, List.setIfInBounds_toArray, List.set_cons_zero, List.set_cons_succ]))
      have O6 := Lib.hid own6
      clear own6
      (refine Lw.take1 (i := 10) (v := ?_) rfl (by kernel_rfl) (by kernel_rfl) (by kernel_rfl) (fun _ _ _ h => h) (Or.inl ⟨by rfl, ?_⟩) (by assumption) ?_; rotate_left 1; (focus (intro wS hSw; obtain ⟨hS1, hS2, hS3, hS4⟩ := hSw; go_simp <;> with_reducible rfl)); (try simp only [Act.put, List.setIfInBounds_toArray, List.set_cons_zero, List.set_cons_succ]))
      refine wpAnyH_done (by kernel_rfl) ?_ _
      go_wp2
      go_roundw
      case rel => exact ⟨k + 1, C6, g6, by go_num, by omega, rfl, by rw [MK.out]; exact Lw.ownsBase O6.out (by have : W4.drew.heap.size = W4.heap.size := rfl; omega), by have h := HC5.out.below hb6; rwa [show used + k * t + t = used + (k + 1) * t by rw [Nat.succ_mul]; omega] at h, Lw.ownsBelow P5.out (Nat.le_refl _) hb6, T5.trans (Lw.Tn.of hb6)⟩
      case measure => simp [intOf]; omega
    · have hkn : k = n := by omega
      subst hkn
      have OWN := Lib.hid own
      have HC := Lib.hid hC
      clear own hC
      go_wp2
      go_ret
      exact ⟨C, g, rfl, OWN.out, HC.out, hT⟩
end Go.Proofs.Ytfocpbknckmmaaa
set_option linter.unusedVariables false
set_option linter.unusedSimpArgs false
namespace Go.Proofs.Ytfocpbknckmmaaa
open Go.RowKit
set_option maxRecDepth 100000 in
set_option maxHeartbeats 2000000 in
theorem mul64_one (n : Nat) (hn : n ≤ 9) (w : World) :
    Calls Try.prog 67 #[.int .u64 1, .int .u64 (n : Int)] w fun e w' => e = .returned (.tuple #[.int .u64 0, .int .u64 (n : Int)]) ∧ w = w' := by
  have hc : n = 0 ∨ n = 1 ∨ n = 2 ∨ n = 3 ∨ n = 4 ∨ n = 5 ∨ n = 6 ∨ n = 7 ∨ n = 8 ∨ n = 9 := by omega
  clear hn
  rcases hc with rfl | rfl | rfl | rfl | rfl | rfl | rfl | rfl | rfl | rfl
  all_goals go_enter Try.func67, Try.ntmps67
  all_goals go_wp2
  all_goals go_ret2
  all_goals exact ⟨rfl, rfl⟩
theorem mul_one (n : Nat) (hn : n ≤ 9) (w : World) :
    Calls Try.prog 42 #[.int .u64 1, .int .u64 (n : Int)] w fun e w' => e = .returned (.tuple #[.int .u64 0, .int .u64 (n : Int)]) ∧ w = w' := by
  have X := Lib.hid (fun w => mul64_one n hn w)
  go_enter Try.func42, Try.ntmps42
  go_wp2_with (go_at_call 67; (with_reducible refine (X.out _).mono ?_); rintro e w1 ⟨rfl, rfl⟩)
  go_ret2
  exact ⟨rfl, rfl⟩
/-- m of n numbers are there -/
def repL (x : Int) (n m : Nat) : List Int := List.replicate m x ++ List.replicate (n - m) 0
set_option maxRecDepth 100000 in
set_option maxHeartbeats 2000000 in
theorem rep_one (x : Int) (n : Nat) (A : Option Addr) (c : Nat) (w : World) (R : Lw.Rd w 1 A 1 (Lw.intsV .i64 [x])) (n1 : 1 ≤ n) (hn : n ≤ 9) :
    Calls Try.prog 19 #[.slice A 1 c, .int .i64 (n : Int)] w (Lw.OwF 2 (List.replicate n x) n w) := by
  have X := Lib.hid (fun w => mul_one n hn w)
  have M : ∀ w : World, (Instr.makeSlice 23 (.int .i64 (n : Int)) (.int .i64 (n : Int))).run Try.prog w = .ok (.slice (some ⟨w.heap.size, 0, none⟩) n n) (w.alloc (.cells (List.replicate n (Value.int .i64 0)).toArray 2)) := fun w => Lw.run_mk elPly rfl .i64 .i64 n (by omega) w
  have G : Hid ((w.alloc (.cells (Array.replicate n (Value.int .i64 0)) 2)).heap[w.heap.size]? = some (.cells (List.replicate n (Value.int .i64 0)).toArray 2 (0, 0))) := by
    unfold Hid
    rw [List.toArray_replicate]; exact Lw.blk_new w _ _
  have P1 := Lib.hid (show 0 < (Lw.intsV .i64 [x]).length → ∃ ad, A = some ad ∧ ∀ j v, (Lw.intsV .i64 [x])[j]? = some v → (w.alloc (.cells (Array.replicate n (Value.int .i64 0)) 2)).cell? (ad.add j) = some v from fun _ => by
    obtain ⟨ad, e, _, h3⟩ := (R.alloc (.cells (Array.replicate n (Value.int .i64 0)) 2)).2 (by omega)
    exact ⟨ad, e, h3⟩)
  have SPL : Hid (Go.splice (List.replicate n (Value.int .i64 0)) 0 (Lw.intsV .i64 [x]) = Lw.intsV .i64 (repL x n 1)) := by
    unfold Hid repL Go.splice Lw.intsV
    simp
  have NX : Hid (∀ m, m ≤ n → Go.splice (Lw.intsV .i64 (repL x n m)) m (Lw.intsV .i64 (List.replicate (min m (n - m)) x)) = Lw.intsV .i64 (repL x n (m + min m (n - m)))) := by
    intro m hm
    unfold repL Go.splice Lw.intsV
    simp only [List.map_append, List.map_replicate, List.length_replicate, List.take_append, List.take_replicate, List.drop_append, List.drop_replicate, Nat.min_self, Nat.sub_self, List.append_assoc]
    have e1 : m - (m + min m (n - m)) = 0 := by omega
    have e2 : n - m - (m + min m (n - m) - m) = n - (m + min m (n - m)) := by omega
    simp [e1, e2]
    rw [← List.append_assoc, List.replicate_append_replicate, Nat.sub_sub]
  have Z := Lib.hid (show Lw.intsV .i64 (repL x n n) = Lw.intsV .i64 (List.replicate n x) by unfold repL; simp)
  have nb : (n : Int) ≤ 9 := by omega
  have CL : Hid ((Lw.intsV .i64 [x]).length = Nat.min 1 n) := (Nat.min_eq_left n1).symm
  have CF : Hid (0 + (Lw.intsV .i64 [x]).length ≤ (List.replicate n (Value.int .i64 0)).length) := by unfold Hid; rw [List.length_replicate]; exact n1
  clear R
  go_enter Try.func19, Try.ntmps19
  go_wp2_with (first | (go_at_call 42; (with_reducible refine (X.out _).mono ?_); rintro e w1 ⟨rfl, rfl⟩) | (with_reducible refine wpList_copy_splice rfl (.tmp 31) (.tmp 32) 23 23 rfl 2 Try.underlying23 (by kernel_rfl) (some ⟨w.heap.size, 0, none⟩) A n n 1 c rfl rfl w.heap.size 0 (List.replicate n (.int .i64 0)) 2 (by exact G.out) (Lw.intsV .i64 [x]) CL.out (fun hp => ⟨rfl, P1.out hp⟩) CF.out (Lw.intsV_one _ _) w.heap.size w (Lw.balloc (Below.refl _ _) _) (Nat.le_refl _) ?_; intro w1 hg1 hb1; rw [SPL.out] at hg1))
  go_loopw [8] (fun nv wr => ∃ m : Nat, nv = .int .i64 (m : Int) ∧ 1 ≤ m ∧ m ≤ n ∧ Hid (wr.heap[w.heap.size]? = some (.cells (Lw.intsV .i64 (repL x n m)).toArray 2 (0, 0))) ∧ Below w.heap.size w wr) (fun nv _ => n - (intOf nv).toNat)
  case atStart => exact ⟨1, rfl, by omega, by omega, hg1, hb1⟩
  case round =>
    obtain ⟨m, rfl, m1, m2, hg, hB⟩ := hrel
    by_cases hlt : m < n
    · have hlt' : (m : Int) < (n : Int) := by omega
      have hnm : ¬ n = m := by omega
      have NXm := Lib.hid (NX.out m m2)
      obtain ⟨k, hk⟩ : ∃ k, min m (n - m) = k := ⟨_, rfl⟩
      rw [hk] at NXm
      have kk1 : 1 ≤ k := by omega
      have kk2 : m + k ≤ n := by omega
      have ew : IntKind.i64.wrap ((m : Int) + (k : Int)) = (m : Int) + (k : Int) := by rw [IntKind.wrap_i64]; omega
      have KL : Hid ((Lw.intsV .i64 (List.replicate k x)).length = Nat.min m (n - m)) := by unfold Hid; rw [Lw.intsV_length, List.length_replicate]; exact hk.symm
      have KF : Hid (m + (Lw.intsV .i64 (List.replicate k x)).length ≤ (Lw.intsV .i64 (repL x n m)).length) := by unfold Hid repL; simp [Lw.intsV]; omega
      have KL2 : Hid ((Lw.intsV .i64 (List.replicate k x)).length = k) := by unfold Hid; simp [Lw.intsV]
      have RD : Lw.Rd wr 1 (some ⟨w.heap.size, 0, none⟩) n (Lw.intsV .i64 (repL x n m)) := Lw.Rd.lit hg.out rfl (by unfold repL; simp [Lw.intsV]; omega)
      have KP := Lib.hid (show ∀ j v, (Lw.intsV .i64 (List.replicate k x))[j]? = some v → wr.drew.cell? ((⟨w.heap.size, 0, none⟩ : Addr).add j) = some v from fun j v hv => by
        obtain ⟨ad, e, _, h3⟩ := RD.2 (by omega)
        injection e with e
        subst e
        refine h3 j v ?_
        have hj : j < k := by
          have := (List.getElem?_eq_some_iff.1 hv).1
          simpa [Lw.intsV] using this
        simp only [Lw.intsV, List.map_replicate, List.map_append, repL] at hv ⊢
        rw [List.getElem?_replicate, if_pos hj] at hv
        rw [List.getElem?_append_left (by simp; omega), List.getElem?_replicate, if_pos (by omega)]
        exact hv)
      clear RD
      go_wp2_with fail
      refine wp_region_held_drew (S := fun w' => True ∧ True ∧ True ∧ True) (by kernel_rfl) (by exact ⟨trivial, trivial, trivial, trivial⟩) (fun hHeld => ?_)
      (refine Lw.take1 (i := 0) (v := ?_) rfl (by kernel_rfl) (by kernel_rfl) (by kernel_rfl) (fun _ _ _ h => h) (Or.inl ⟨by rfl, ?_⟩) (by assumption) ?_; rotate_left 1; (focus (intro wS hSw; obtain ⟨hS1, hS2, hS3, hS4⟩ := hSw; go_simp <;> with_reducible rfl)); (try simp only [Act.put, List.setIfInBounds_toArray, List.set_cons_zero, List.set_cons_succ]))
      (refine Lw.take1 (i := 1) (v := ?_) rfl (by kernel_rfl) (by kernel_rfl) (by kernel_rfl) (fun _ _ _ h => h) (Or.inl ⟨by rfl, ?_⟩) (by assumption) ?_; rotate_left 1; (focus (intro wS hSw; obtain ⟨hS1, hS2, hS3, hS4⟩ := hSw; go_simp <;> with_reducible rfl)); (try simp only [Act.put, List.setIfInBounds_toArray, List.set_cons_zero, List.set_cons_succ]))
      (refine Lw.take1 (i := 2) (v := ?_) rfl (by kernel_rfl) (by kernel_rfl) (by kernel_rfl) (fun _ _ _ h => h) (Or.inl ⟨by rfl, ?_⟩) (by assumption) ?_; rotate_left 1; (focus (intro wS hSw; obtain ⟨hS1, hS2, hS3, hS4⟩ := hSw; go_simp <;> with_reducible rfl)); (try simp only [Act.put, List.setIfInBounds_toArray, List.set_cons_zero, List.set_cons_succ]))
      (refine Lw.take1 (i := 3) (v := ?_) rfl (by kernel_rfl) (by kernel_rfl) (by kernel_rfl) (fun _ _ _ h => h) (Or.inl ⟨by rfl, ?_⟩) (by assumption) ?_; rotate_left 1; (focus (intro wS hSw; obtain ⟨hS1, hS2, hS3, hS4⟩ := hSw; go_simp <;> with_reducible rfl)); (try simp only [Act.put, List.setIfInBounds_toArray, List.set_cons_zero, List.set_cons_succ]))
      (refine Lw.take1 (i := 4) (v := ?_) rfl (by kernel_rfl) (by kernel_rfl) (by kernel_rfl) (fun _ _ _ h => h) (Or.inl ⟨by rfl, ?_⟩) (by assumption) ?_; rotate_left 1; (focus (intro wS hSw; obtain ⟨hS1, hS2, hS3, hS4⟩ := hSw; go_simp <;> with_reducible rfl)); (try simp only [Act.put, List.setIfInBounds_toArray, List.set_cons_zero, List.set_cons_succ]))
      (refine Lw.take1 (i := 5) (v := ?_) rfl (by kernel_rfl) (by kernel_rfl) (by kernel_rfl) (fun _ _ _ h => h) (Or.inl ⟨by rfl, ?_⟩) (by assumption) ?_; rotate_left 1; (focus (intro wS hSw; obtain ⟨hS1, hS2, hS3, hS4⟩ := hSw; go_simp <;> with_reducible rfl)); (try simp only [Act.put, List.setIfInBounds_toArray, List.set_cons_zero, List.set_cons_succ]))
      (refine Lw.take1 (i := 6) (v := ?_) rfl (by kernel_rfl) (by kernel_rfl) (by kernel_rfl) (fun _ _ _ h => h) (Or.inl ⟨by rfl, ?_⟩) (by assumption) ?_; rotate_left 1; (focus (intro wS hSw; obtain ⟨hS1, hS2, hS3, hS4⟩ := hSw; go_simp <;> with_reducible rfl)); (try simp only [Act.put, List.setIfInBounds_toArray, List.set_cons_zero, List.set_cons_succ]))
      (refine wpAnyH_ready (rs := [7]) (by kernel_rfl) (by simp) ?_; refine Lw.cons1 (i := 7) rfl (fun K hK => ?_) AllReadyH.nil; refine step_copy_splice rfl (.tmp 41) (.tmp 44) 23 23 rfl 2 Try.underlying23 (by kernel_rfl) _ (some ⟨w.heap.size, 0, none⟩) (n - m) (n - m) m n rfl rfl w.heap.size m (Lw.intsV .i64 (repL x n m)) 2 (by exact hg.out) (Lw.intsV .i64 (List.replicate k x)) KL.out (fun hp => ⟨rfl, _, rfl, KP.out⟩) KF.out (Lw.intsV_one _ _) w.heap.size w (Below.drew hB) (Nat.le_refl _) ?_; intro w2 hg2 hb2; rw [NXm.out] at hg2; refine hK.out _ _ ⟨trivial, trivial, trivial, trivial⟩ (fun hHeld => ?_); clear hK K; (try simp only [Act.put, List.setIfInBounds_toArray, List.set_cons_zero, List.set_cons_succ]))
      rw [KL2.out]
      (refine Lw.take1 (i := 8) (v := ?_) rfl (by kernel_rfl) (by kernel_rfl) (by kernel_rfl) (fun _ _ _ h => h) (Or.inl ⟨by rfl, ?_⟩) (by assumption) ?_; rotate_left 1; (focus (intro wS hSw; obtain ⟨hS1, hS2, hS3, hS4⟩ := hSw; go_simp <;> with_reducible rfl)); (try simp only [Act.put, List.setIfInBounds_toArray, List.set_cons_zero, List.set_cons_succ]))
      (refine Lw.take1 (i := 9) (v := ?_) rfl (by kernel_rfl) (by kernel_rfl) (by kernel_rfl) (fun _ _ _ h => h) (Or.inl ⟨by rfl, ?_⟩) (by assumption) ?_; rotate_left 1; (focus (intro wS hSw; obtain ⟨hS1, hS2, hS3, hS4⟩ := hSw; go_simp <;> with_reducible rfl)); (try simp only [Act.put, List.setIfInBounds_toArray, List.set_cons_zero, List.set_cons_succ]))
      refine wpAnyH_done (by kernel_rfl) ?_ _
      go_wp2
      go_roundw
      case rel => exact ⟨m + k, by go_num, by omega, by omega, hg2, hb2⟩
      case measure => simp [intOf]; omega
    · have hkn : m = n := by omega
      subst hkn
      have OW : Hid (wr.ownsRow w.heap.size 2 1 (.slice (some ⟨w.heap.size, 0, none⟩) m m) m (Lw.intsV .i64 (List.replicate m x))) := by
        have h := hg.out
        rw [Z.out] at h
        exact Lw.own_blk h (by simp [Lw.intsV]) (by omega) (Nat.le_refl _)
      go_wp2
      go_ret
      exact ⟨_, _, rfl, OW.out, hB⟩
end Go.Proofs.Ytfocpbknckmmaaa
set_option linter.unusedVariables false
set_option linter.unusedSimpArgs false
namespace Go.Proofs.Ytfocpbknckmmaaa
open Go.RowKit
theorem parts_Play_bad (p t : Int) (A : Option Addr) (n c : Nat) (gs : List Lw.GateT) (B : Option Addr) (m d : Nat) (ins : List Int) (C : Option Addr) (k f : Nat) (w : World) (RA : Lw.Rd w 4 A n (Lw.gatesV gs)) (RB : Lw.Rd w 1 B m (Lw.intsV .i64 ins)) (h : ¬ Lw.clrE p gs ins = 0) :
    Calls Try.prog 5 #[.int .i64 p, .int .i64 t, .slice A n c, .slice B m d, .slice C k f] w fun e w' => e = .returned (.tuple #[.slice none 0 0, .int .i64 (Lw.clrE p gs ins)]) ∧ Below w.heap.size w w' := by
  have X := Lib.hid (parts_wrong p A n c gs B m d ins w RA RB)
  have z : (Lw.clrE p gs ins != 0) = true := by simpa using h
  have z' : (Lw.clrE p gs ins == 0) = false := by simpa using h
  generalize Lw.clrE p gs ins = E at *
  clear RA RB h
  go_enter Try.func5, Try.ntmps5
  go_wp2_with (go_at_call 15; (with_reducible refine (X.out).mono ?_); rintro e w1 ⟨rfl, hb1⟩)
  go_ret2
  exact ⟨rfl, hb1⟩
theorem parts_Play_range (p t : Int) (A : Option Addr) (n c : Nat) (gs : List Lw.GateT) (B : Option Addr) (m d : Nat) (ins : List Int) (C : Option Addr) (k f : Nat) (rs : List Int) (w : World) (RA : Lw.Rd w 4 A n (Lw.gatesV gs)) (RB : Lw.Rd w 1 B m (Lw.intsV .i64 ins)) (RC : Lw.Rd w 1 C k (Lw.intsV .i64 rs)) (hk : k ≤ 9223372036854775807) (h : Lw.clrE p gs ins = 0) (h2 : ¬ Lw.ParP p t ∨ Lw.outR p rs = true) :
    Calls Try.prog 5 #[.int .i64 p, .int .i64 t, .slice A n c, .slice B m d, .slice C k f] w fun e w' => e = .returned (.tuple #[.slice none 0 0, .int .i64 2]) ∧ Below w.heap.size w w' := by
  have X := parts_wrong p A n c gs B m d ins w RA RB
  rw [h] at X
  replace X := Lib.hid X
  have PT := Lib.hid (fun w => parts_parties p t w)
  have PO := fun W (hb : Below w.heap.size w W) => parts_out p C k f rs W (RC.below (Nat.le_refl _) hb) hk
  by_cases h1 : Lw.ParP p t
  · have h2 : Lw.outR p rs = true := by rcases h2 with h2 | h2; exact absurd h1 h2; exact h2
    rw [decide_eq_true h1] at PT
    rw [h2] at PO
    replace PO := Lib.hid PO
    clear RA RB RC h h1 h2
    go_enter Try.func5, Try.ntmps5
    go_wp2_with (go_at_call 15; (with_reducible refine (X.out).mono ?_); rintro e w1 ⟨rfl, hb1⟩)
    go_wp2_with (first | (go_at_call 16; (with_reducible refine (PT.out _).mono ?_); rintro e w' ⟨rfl, rfl⟩) | (go_at_call 17; (with_reducible refine (PO.out _ hb1).mono ?_); rintro e w2 ⟨rfl, hb2⟩))
    go_ret2
    exact ⟨rfl, Lw.bt hb1 hb2⟩
  · rw [decide_eq_false h1] at PT
    clear RA RB RC h h1 h2 PO
    go_enter Try.func5, Try.ntmps5
    go_wp2_with (go_at_call 15; (with_reducible refine (X.out).mono ?_); rintro e w1 ⟨rfl, hb1⟩)
    go_wp2_with (go_at_call 16; (with_reducible refine (PT.out _).mono ?_); rintro e w' ⟨rfl, rfl⟩)
    go_ret2
    exact ⟨rfl, hb1⟩
end Go.Proofs.Ytfocpbknckmmaaa
namespace Lw
open Go Go.RowKit
/-- a row of m numbers -/
def rowV (m : Nat) (r : Option Addr × Nat) : Value := .slice r.1 m r.2
theorem row_one (C : Option Addr) (m g : Nat) : ∀ u ∈ [Value.slice C m g], u.oneCell' = true := by intro u hu; simp at hu; subst hu; rfl
end Lw
set_option linter.unusedVariables false
set_option linter.unusedSimpArgs false
namespace Go.Proofs.Ytfocpbknckmmaaa
open Go.RowKit
theorem elRow : Lw.El Try.prog 24 23 (.slice none 0 0) 1 24 := Lw.El.mk' Try.underlying24 (by kernel_rfl) rfl (by decide) (by decide)
theorem CrwR.keep {b : Nat} {p t n : Int} {rest : List Int} {w w' : World} (h : CrwR b p t n rest w) (hk : ∀ k, k ≤ b → w'.heap[k]? = w.heap[k]?) (hs : w.heap.size ≤ w'.heap.size) : CrwR b p t n rest w' := by
  obtain ⟨RA, rn, rc, h1, h2, h3, h4⟩ := h
  refine ⟨RA, rn, rc, (hk b (Nat.le_refl _)).trans h1, ⟨h2.1, fun h0 => ?_⟩, h3, h4⟩
  obtain ⟨ad, e, hb, hx⟩ := h2.2 h0
  exact ⟨ad, e, Nat.lt_of_lt_of_le hb hs, fun j u hu => (Lw.cell_of_blk _ (hk _ (by rw [Lw.add_block]; exact Nat.le_of_lt (h4 ad e h0)))).trans (hx j u hu)⟩
/-- k gates are done -/
def PlS (wc : World) (b : Nat) (p : Int) (t m : Nat) (ins random : List Int) (gs : List Lw.GateT) (k : Nat) (l : Value) (wr : World) : Prop :=
  ∃ T : List (Option Addr × Nat), T.length = k ∧ wr.ownsRow wc.heap.size 23 1 l k (T.map (Lw.rowV m)) ∧ (∀ j (h : j < T.length), wr.ownsRow wc.heap.size 2 1 (Lw.rowV m T[j]) m (Lw.intsV .i64 ((Lw.prT p t ins random gs k).1.getD j []))) ∧ CrwR b p t m (random.drop (Lw.prT p t ins random gs k).2) wr ∧ Lw.Tn b wc wr
theorem pl_next {wc W W' W'' : World} {b : Nat} {p : Int} {t m k : Nat} {ins random : List Int} {gs : List Lw.GateT} {l l' : Value} {T : List (Option Addr × Nat)} {C : Option Addr} {g u : Nat} {r : List Int} {o : Obj}
    (hbc : b < wc.heap.size) (tl : T.length = k) (hl : W.ownsRow wc.heap.size 23 1 l k (T.map (Lw.rowV m)))
    (hr : ∀ j (h : j < T.length), W.ownsRow wc.heap.size 2 1 (Lw.rowV m T[j]) m (Lw.intsV .i64 ((Lw.prT p t ins random gs k).1.getD j [])))
    (hT0 : Lw.Tn b wc W) (hT : Lw.Tn b W W') (row : W'.ownsRow wc.heap.size 2 1 (.slice C m g) m (Lw.intsV .i64 r)) (hC : CrwR b p t m (random.drop u) W')
    (hn : Lw.prT p t ins random gs (k + 1) = ((Lw.prT p t ins random gs k).1 ++ [r], u)) (hlen : (Lw.prT p t ins random gs k).1.length = k)
    (own : W''.ownsRow wc.heap.size 23 1 l' (k + 1) (T.map (Lw.rowV m) ++ [.slice C m g])) (hg : (W'.alloc o).grownBy W'' l.ownBlock) : PlS wc b p t m ins random gs (k + 1) l' W'' := by
  have hge : ∀ q, l.ownBlock = some q → wc.heap.size ≤ q := fun q e => (hl.lt _ e).1
  have hnb : l.ownBlock ≠ some b := fun e => by have := hge _ e; omega
  have OL := (Lw.own_tn hl hT hnb).alloc o
  have hz : W'.heap.size ≤ (W'.alloc o).heap.size := by simp
  refine ⟨T ++ [(C, g)], by simp [tl], by simpa [Lw.rowV] using own, fun j hj => ?_, ?_, ?_⟩
  · rw [hn]
    simp only [List.length_append, List.length_singleton] at hj
    by_cases h : j < T.length
    · have e1 : ((Lw.prT p t ins random gs k).1 ++ [r]).getD j [] = (Lw.prT p t ins random gs k).1.getD j [] := by
        rw [List.getD_eq_getElem?_getD, List.getD_eq_getElem?_getD, List.getElem?_append_left (by omega)]
      simp only [e1, List.getElem_append_left h]
      exact Lw.own_keep' ((Lw.own_tn (hr j h) hT (fun e => by have := ((hr j h).lt _ e).1; omega)).alloc o) OL (by decide) hg
    · have hjk : j = T.length := by omega
      subst hjk
      have e1 : ((Lw.prT p t ins random gs k).1 ++ [r]).getD T.length [] = r := by
        rw [List.getD_eq_getElem?_getD, List.getElem?_append_right (by omega), tl, hlen]; simp
      have e2 : (T ++ [(C, g)])[T.length] = (C, g) := by simp
      simp only [e1, e2]
      exact Lw.own_keep' (row.alloc o) OL (by decide) hg
  · rw [hn]
    have hC' := hC.below (Lw.balloc (Below.refl _ _) o)
    refine hC'.keep (fun q hq => hg.block q (by have := hC'.lt; omega) (fun e => by have := hge q e.symm; omega)) hg.size
  · have hT2 := hT0.trans hT
    have hT3 := hT2.trans (Lw.Tn.of (Lw.balloc (Below.refl _ _) o))
    exact ⟨hg.os.trans hT3.os, hg.tape.trans hT3.tape, hg.output.trans hT3.output, Nat.le_trans hT3.size hg.size, fun q hq h1 => (hg.block q (Nat.lt_of_lt_of_le hq hT3.size) (fun e => by have := hge q e.symm; omega)).trans (hT3.block q hq h1)⟩
end Go.Proofs.Ytfocpbknckmmaaa
