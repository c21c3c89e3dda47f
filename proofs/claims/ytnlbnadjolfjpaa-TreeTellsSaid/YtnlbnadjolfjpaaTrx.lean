/- tree.Prove and its reference: what is needed. -/
import Derived.Test.YtnlbnadjolfjpaaTrw
namespace Lw
open Go Go.RowKit
/-- the proof of a leaf, from k rows -/
def prfL (T : List TRow) (n i : Nat) : Nat → List Int
  | 0 => []
  | k + 1 => prfL T n i k ++ (if (i / 2 ^ k) ^^^ 1 < mny n k then [(ndR T k).getD ((i / 2 ^ k) ^^^ 1) 0] else [])
theorem prf_in {T : List TRow} {n i k : Nat} (h : (i / 2 ^ k) ^^^ 1 < mny n k) : prfL T n i (k + 1) = prfL T n i k ++ [(ndR T k).getD ((i / 2 ^ k) ^^^ 1) 0] := by
  show _ ++ (if _ then _ else _) = _; rw [if_pos h]
theorem prf_out {T : List TRow} {n i k : Nat} (h : ¬ (i / 2 ^ k) ^^^ 1 < mny n k) : prfL T n i (k + 1) = prfL T n i k := by
  show _ ++ (if _ then _ else _) = _; rw [if_neg h, List.append_nil]
theorem prf_len (T : List TRow) (n i : Nat) : ∀ k, (prfL T n i k).length ≤ k
  | 0 => Nat.le_refl _
  | k + 1 => by
    have := prf_len T n i k
    show (prfL T n i k ++ (if _ then _ else _)).length ≤ _
    split <;> simp <;> omega
theorem half_pow (i k : Nat) : i / 2 ^ k / 2 = i / 2 ^ (k + 1) := by rw [Nat.div_div_eq_div_mul, Nat.pow_succ]
theorem addr_cell (av x : Nat) : (⟨av, 0, none⟩ : Addr).add x = ⟨av, x, none⟩ := by unfold Addr.add; split <;> simp_all
/-- the proof so far, in memory -/
def PrJ (t1 t2 e : TypeId) (T : List TRow) (n i : Nat) (w : World) (k av : Nat) (W : World) : Prop :=
  w.heap.size + 2 ≤ av ∧ Below w.heap.size w W ∧ W.heap[w.heap.size]? = some (.cells #[.int .i64 ((i / 2 ^ k : Nat) : Int)] t1 (0, 0)) ∧
  ∃ v, W.heap[w.heap.size + 1]? = some (.cells #[v] t2 (0, 0)) ∧ W.ownsRow (w.heap.size + 2) e 1 v (prfL T n i k).length (intsV .u32 (prfL T n i k)) ∧ v.ownBlock ≠ some av
theorem PrJ.up {t1 t2 e : TypeId} {T : List TRow} {n i : Nat} {w : World} {k av av' : Nat} {W W' : World} (h : PrJ t1 t2 e T n i w k av W) (hb : Below W.heap.size W W') (ha : W.heap.size ≤ av') : PrJ t1 t2 e T n i w k av' W' := by
  obtain ⟨h1, h2, h3, v, h4, h5, h6⟩ := h
  have hl := (Array.getElem?_eq_some_iff.1 h4).1
  refine ⟨by omega, bt h2 hb, (hb.block _ (by omega)).trans h3, v, (hb.block _ hl).trans h4, ownsBelow h5 (Nat.le_refl _) hb, fun e => ?_⟩
  have := (h5.lt _ e).2
  omega
/-- behind a visit -/
def VisR (t1 t2 e : TypeId) (P : List Int) (j av : Nat) (w W : World) (x : Ending) (W' : World) : Prop := (∃ v, x = .returned v) ∧ (w.heap.size + 2 ≤ av ∧ Below w.heap.size w W' ∧ W'.heap[w.heap.size]? = some (.cells #[.int .i64 (j : Int)] t1 (0, 0)) ∧
  ∃ v, W'.heap[w.heap.size + 1]? = some (.cells #[v] t2 (0, 0)) ∧ W'.ownsRow (w.heap.size + 2) e 1 v P.length (intsV .u32 P) ∧ v.ownBlock ≠ some av) ∧ W'.heap[av]? = W.heap[av]?
/-- what Prove returns -/
def PrvR (e : TypeId) (ys : List Int) (w : World) (x : Ending) (w' : World) : Prop := ∃ A c, x = .returned (.tuple #[.slice A ys.length c, .int .i64 0]) ∧ w'.ownsRow w.heap.size e 1 (.slice A ys.length c) ys.length (intsV .u32 ys) ∧ Below w.heap.size w w'
end Lw
set_option linter.unusedVariables false
set_option linter.unusedSimpArgs false
namespace Go.Proofs.Ytnlbnadjolfjpaa
open Go.RowKit
set_option maxHeartbeats 1000000 in
theorem law_nodes (A B : Option Addr) (n m c d : Nat) (xs ys : List Int) (w : World) (R1 : Lw.Rd w 1 A n (Lw.intsV .u32 xs)) (R2 : Lw.Rd w 1 B m (Lw.intsV .u32 ys)) (hn : n ≤ 1073741824) (hm : m ≤ 1073741824) :
    Calls Try.prog 26 #[.slice A n c, .slice B m d] w fun e w' => e = .returned (.bool (decide (xs = ys))) ∧ Below w.heap.size w w' := by
  have l1 : xs.length = n := by have := R1.1; simpa [Lw.intsV] using this
  have l2 : ys.length = m := by have := R2.1; simpa [Lw.intsV] using this
  by_cases hnm : n = m
  · subst hnm
    have L1 := Lib.hid l1
    have L2 := Lib.hid l2
    have R1 := Lib.hid R1
    have R2 := Lib.hid R2
    clear l1 l2
    go_enter Try.func26, Try.ntmps26
    go_wp2
    go_loopw [5] (fun i wr => ∃ k : Nat, i = .int .i64 (k : Int) ∧ k ≤ n ∧ Hid (xs.take k = ys.take k) ∧ Below w.heap.size w wr) (fun i _ => n - (intOf i).toNat)
    case atStart => exact ⟨0, rfl, by omega, rfl, Below.refl _ _⟩
    case round =>
      obtain ⟨k, rfl, k1, T, hB⟩ := hrel
      by_cases hlt : k < n
      · have h1 : k < xs.length := by have := L1.out; omega
        have h2 : k < ys.length := by have := L2.out; omega
        obtain ⟨a1, rfl, ha1, c1⟩ := (R1.out.below (Nat.le_refl _) hB).at1 hlt (Lw.intsV_get h1)
        obtain ⟨a2, rfl, ha2, c2⟩ := (R2.out.below (Nat.le_refl _) hB).at1 hlt (Lw.intsV_get h2)
        have N : Hid (xs[k] = ys[k] → xs.take (k + 1) = ys.take (k + 1)) := by
          intro e; rw [List.take_succ_eq_append_getElem h1, List.take_succ_eq_append_getElem h2, T.out, e]
        have D : Hid (xs[k] ≠ ys[k] → decide (xs = ys) = false) := by
          intro e; apply decide_eq_false; intro e2; subst e2; exact e rfl
        obtain ⟨x, hx⟩ : ∃ x, xs[k] = x := ⟨_, rfl⟩
        obtain ⟨y, hy⟩ : ∃ y, ys[k] = y := ⟨_, rfl⟩
        rw [hx] at c1 N D
        rw [hy] at c2 N D
        clear hx hy
        have i0 : (0 : Int) ≤ (k : Int) := by omega
        have i1 : (k : Int) < (n : Int) := by omega
        by_cases hxy : x = y
        · have N2 := Lib.hid (N.out hxy)
          clear N D
          subst hxy
          go_wp2
          refine wp_region_held_drew (S := fun w' => w'.cell? (a1.add k) = some (.int .u32 x) ∧ w'.cell? (a2.add k) = some (.int .u32 x)) (by kernel_rfl) (by exact ⟨c1, c2⟩) (fun hHeld => ?_)
          (refine Lw.take1 (i := 0) (v := ?_) rfl (by kernel_rfl) (by kernel_rfl) (by kernel_rfl) (fun _ _ _ h => h) (Or.inl ⟨by rfl, ?_⟩) (by assumption) ?_; rotate_left 1; (focus (intro wS hSw; (try dsimp only at hSw); go_simp <;> with_reducible rfl)); (try simp only [Act.put, List.setIfInBounds_toArray, List.set_cons_zero, List.set_cons_succ]))
          (refine Lw.take1 (i := 1) (v := ?_) rfl (by kernel_rfl) (by kernel_rfl) (by kernel_rfl) (fun _ _ _ h => h) (Or.inl ⟨by rfl, ?_⟩) (by assumption) ?_; rotate_left 1; (focus (intro wS hSw; (try dsimp only at hSw); go_simp <;> with_reducible rfl)); (try simp only [Act.put, List.setIfInBounds_toArray, List.set_cons_zero, List.set_cons_succ]))
          (refine Lw.take1 (i := 2) (v := ?_) rfl (by kernel_rfl) (by kernel_rfl) (by kernel_rfl) (fun _ _ _ h => h) (Or.inl ⟨by rfl, ?_⟩) (by assumption) ?_; rotate_left 1; (focus (intro wS hSw; (try dsimp only at hSw); go_simp <;> with_reducible rfl)); (try simp only [Act.put, List.setIfInBounds_toArray, List.set_cons_zero, List.set_cons_succ]))
          (refine Lw.take1 (i := 3) (v := ?_) rfl (by kernel_rfl) (by kernel_rfl) (by kernel_rfl) (fun _ _ _ h => h) (Or.inl ⟨by rfl, ?_⟩) (by assumption) ?_; rotate_left 1; (focus (intro wS hSw; (try dsimp only at hSw); go_simp <;> with_reducible rfl)); (try simp only [Act.put, List.setIfInBounds_toArray, List.set_cons_zero, List.set_cons_succ]))
          (refine Lw.take1 (i := 4) (v := ?_) rfl (by kernel_rfl) (by kernel_rfl) (by kernel_rfl) (fun _ _ _ h => h) (Or.inl ⟨by rfl, ?_⟩) (by assumption) ?_; rotate_left 1; (focus (intro wS hSw; (try dsimp only at hSw); go_simp <;> with_reducible rfl)); (try simp only [Act.put, List.setIfInBounds_toArray, List.set_cons_zero, List.set_cons_succ]))
          (refine Lw.take1 (i := 5) (v := ?_) rfl (by kernel_rfl) (by kernel_rfl) (by kernel_rfl) (fun _ _ _ h => h) (Or.inl ⟨by rfl, ?_⟩) (by assumption) ?_; rotate_left 1; (focus (intro wS hSw; (try dsimp only at hSw); go_simp <;> with_reducible rfl)); (try simp only [Act.put, List.setIfInBounds_toArray, List.set_cons_zero, List.set_cons_succ]))
          (refine Lw.take1 (i := 6) (v := ?_) rfl (by kernel_rfl) (by kernel_rfl) (by kernel_rfl) (fun _ _ _ h => h) (Or.inl ⟨by rfl, ?_⟩) (by assumption) ?_; rotate_left 1; (focus (intro wS hSw; (try dsimp only at hSw); go_simp <;> with_reducible rfl)); (try simp only [Act.put, List.setIfInBounds_toArray, List.set_cons_zero, List.set_cons_succ]))
          (refine Lw.take1 (i := 7) (v := ?_) rfl (by kernel_rfl) (by kernel_rfl) (by kernel_rfl) (fun _ _ _ h => h) (Or.inl ⟨by rfl, ?_⟩) (by assumption) ?_; rotate_left 1; (focus (intro wS hSw; (try dsimp only at hSw); go_simp <;> with_reducible rfl)); (try simp only [Act.put, List.setIfInBounds_toArray, List.set_cons_zero, List.set_cons_succ]))
          (refine Lw.take1 (i := 8) (v := ?_) rfl (by kernel_rfl) (by kernel_rfl) (by kernel_rfl) (fun _ _ _ h => h) (Or.inl ⟨by rfl, ?_⟩) (by assumption) ?_; rotate_left 1; (focus (intro wS hSw; (try dsimp only at hSw); go_simp <;> with_reducible rfl)); (try simp only [Act.put, List.setIfInBounds_toArray, List.set_cons_zero, List.set_cons_succ]))
          refine wpAnyH_done (by kernel_rfl) ?_ _
          go_wp2
          go_roundw
          case rel => exact ⟨k + 1, by go_num, by omega, N2, Below.drew hB⟩
          case measure => simp [intOf]; omega
        · have D := Lib.hid (D.out hxy)
          have x1 : (x != y) = true := by simpa using hxy
          clear hxy N
          go_wp2
          refine wp_region_held_drew (S := fun w' => w'.cell? (a1.add k) = some (.int .u32 x) ∧ w'.cell? (a2.add k) = some (.int .u32 y)) (by kernel_rfl) (by exact ⟨c1, c2⟩) (fun hHeld => ?_)
          (refine Lw.take1 (i := 0) (v := ?_) rfl (by kernel_rfl) (by kernel_rfl) (by kernel_rfl) (fun _ _ _ h => h) (Or.inl ⟨by rfl, ?_⟩) (by assumption) ?_; rotate_left 1; (focus (intro wS hSw; (try dsimp only at hSw); go_simp <;> with_reducible rfl)); (try simp only [Act.put, List.setIfInBounds_toArray, List.set_cons_zero, List.set_cons_succ]))
          (refine Lw.take1 (i := 1) (v := ?_) rfl (by kernel_rfl) (by kernel_rfl) (by kernel_rfl) (fun _ _ _ h => h) (Or.inl ⟨by rfl, ?_⟩) (by assumption) ?_; rotate_left 1; (focus (intro wS hSw; (try dsimp only at hSw); go_simp <;> with_reducible rfl)); (try simp only [Act.put, List.setIfInBounds_toArray, List.set_cons_zero, List.set_cons_succ]))
          (refine Lw.take1 (i := 2) (v := ?_) rfl (by kernel_rfl) (by kernel_rfl) (by kernel_rfl) (fun _ _ _ h => h) (Or.inl ⟨by rfl, ?_⟩) (by assumption) ?_; rotate_left 1; (focus (intro wS hSw; (try dsimp only at hSw); go_simp <;> with_reducible rfl)); (try simp only [Act.put, List.setIfInBounds_toArray, List.set_cons_zero, List.set_cons_succ]))
          (refine Lw.take1 (i := 3) (v := ?_) rfl (by kernel_rfl) (by kernel_rfl) (by kernel_rfl) (fun _ _ _ h => h) (Or.inl ⟨by rfl, ?_⟩) (by assumption) ?_; rotate_left 1; (focus (intro wS hSw; (try dsimp only at hSw); go_simp <;> with_reducible rfl)); (try simp only [Act.put, List.setIfInBounds_toArray, List.set_cons_zero, List.set_cons_succ]))
          (refine Lw.take1 (i := 4) (v := ?_) rfl (by kernel_rfl) (by kernel_rfl) (by kernel_rfl) (fun _ _ _ h => h) (Or.inl ⟨by rfl, ?_⟩) (by assumption) ?_; rotate_left 1; (focus (intro wS hSw; (try dsimp only at hSw); go_simp <;> with_reducible rfl)); (try simp only [Act.put, List.setIfInBounds_toArray, List.set_cons_zero, List.set_cons_succ]))
          (refine Lw.take1 (i := 5) (v := ?_) rfl (by kernel_rfl) (by kernel_rfl) (by kernel_rfl) (fun _ _ _ h => h) (Or.inl ⟨by rfl, ?_⟩) (by assumption) ?_; rotate_left 1; (focus (intro wS hSw; (try dsimp only at hSw); go_simp <;> with_reducible rfl)); (try simp only [Act.put, List.setIfInBounds_toArray, List.set_cons_zero, List.set_cons_succ]))
          (refine Lw.take1 (i := 6) (v := ?_) rfl (by kernel_rfl) (by kernel_rfl) (by kernel_rfl) (fun _ _ _ h => h) (Or.inl ⟨by rfl, ?_⟩) (by assumption) ?_; rotate_left 1; (focus (intro wS hSw; (try dsimp only at hSw); go_simp <;> with_reducible rfl)); (try simp only [Act.put, List.setIfInBounds_toArray, List.set_cons_zero, List.set_cons_succ]))
          (refine Lw.take1 (i := 7) (v := ?_) rfl (by kernel_rfl) (by kernel_rfl) (by kernel_rfl) (fun _ _ _ h => h) (Or.inl ⟨by rfl, ?_⟩) (by assumption) ?_; rotate_left 1; (focus (intro wS hSw; (try dsimp only at hSw); go_simp <;> with_reducible rfl)); (try simp only [Act.put, List.setIfInBounds_toArray, List.set_cons_zero, List.set_cons_succ]))
          (refine Lw.take1 (i := 8) (v := ?_) rfl (by kernel_rfl) (by kernel_rfl) (by kernel_rfl) (fun _ _ _ h => h) (Or.inl ⟨by rfl, ?_⟩) (by assumption) ?_; rotate_left 1; (focus (intro wS hSw; (try dsimp only at hSw); go_simp <;> with_reducible rfl)); (try simp only [Act.put, List.setIfInBounds_toArray, List.set_cons_zero, List.set_cons_succ]))
          refine wpAnyH_done (by kernel_rfl) ?_ _
          go_wp2
          go_ret
          rw [D.out]
          exact ⟨rfl, Below.drew hB⟩
      · have hk : k = n := by omega
        subst hk
        have E : Hid (decide (xs = ys) = true) := by
          apply decide_eq_true
          have := T.out
          rwa [List.take_of_length_le (by have := L1.out; omega), List.take_of_length_le (by have := L2.out; omega)] at this
        go_wp2
        go_ret
        rw [E.out]
        exact ⟨rfl, hB⟩
  · have D : Hid (decide (xs = ys) = false) := by
      apply decide_eq_false; intro e; subst e; exact hnm (l1.symm.trans l2)
    have h1 : ((n : Int) != (m : Int)) = true := by simp; omega
    clear l1 l2 R1 R2
    go_enter Try.func26, Try.ntmps26
    go_wp2
    go_ret
    rw [D.out]
    exact ⟨rfl, Below.refl _ _⟩

set_option maxRecDepth 100000 in
set_option maxHeartbeats 4000000 in
theorem rows_prove (A : Option Addr) (n c : Nat) (T : List Lw.TRow) (w : World) (RD : Lw.Rd w 1 A n (T.map Lw.TRow.v)) (hT : ∀ r ∈ T, Lw.TxtOk w r ∧ r.n ≤ 4096) (h0 : 0 < n) (hn : n ≤ 64) (env : Array Value) (J : Nat → Nat → World → Prop)
    (hJ : ∀ k av W W' av', J k av W → Below W.heap.size W W' → W.heap.size ≤ av' → J k av' W') (hJ0 : ∀ W av, Below w.heap.size w W → w.heap.size ≤ av → J 0 av W)
    (hV : ∀ k av W m d, J k av W → av < W.heap.size → Lw.Rd W 1 (some ⟨av, 0, none⟩) m (Lw.intsV .u32 (Lw.ndR T k)) → 1 < m → m ≤ 64 → m ≤ d → Calls Try.prog 51 (#[.slice (some ⟨av, 0, none⟩) m d] ++ env) W fun e W' => (∃ v, e = .returned v) ∧ J (k + 1) av W' ∧ W'.heap[av]? = W.heap[av]?) :
    Calls Try.prog 38 #[.slice A n c, .func (.func 51) #[] env] w fun e W => e = .returned (.int .u32 ((Lw.ndR T (Lw.hgt n)).getD 0 0)) ∧ ∃ av, J (Lw.hgt n) av W := by
  have LT := Lib.hid (show T.length = n by have := RD.1; simpa using this)
  have RD := Lib.hid RD
  have HT := Lib.hid hT
  have HV := Lib.hid hV
  have HJ := Lib.hid hJ
  have HJ0 := Lib.hid hJ0
  clear hT hV hJ hJ0
  go_enter Try.func38, Try.ntmps38
  go_wp2
  go_loopw [5, 7, 10] (fun v _ i wr => ∃ k : Nat, i = .int .i64 (k : Int) ∧ k ≤ n ∧ Below w.heap.size w wr ∧ wr.ownsRow w.heap.size 33 1 v k (Lw.intsV .u32 ((T.take k).map Lw.lfS))) (fun _ _ i _ => n - (intOf i).toNat)
  case atStart => exact ⟨0, rfl, by omega, Below.refl _ _, World.ownsRow_nil _ _ _ _⟩
  case round =>
    obtain ⟨k, rfl, k1, hB, own⟩ := hrel
    by_cases hlt : k < n
    · have hlt' : (k : Int) < (n : Int) := by omega
      have hl : k < T.length := by rw [LT.out]; exact hlt
      obtain ⟨ad, rfl, had, hcell⟩ := RD.out.at1 (x := T[k].v) hlt (by rw [List.getElem?_map, List.getElem?_eq_getElem hl]; rfl)
      obtain ⟨ok, hr2⟩ := HT.out _ (List.getElem_mem hl)
      have TK := Lib.hid (show Lw.intsV .u32 ((T.take (k + 1)).map Lw.lfS) = Lw.intsV .u32 ((T.take k).map Lw.lfS) ++ Lw.intsV .u32 [Lw.lfS T[k]] by rw [List.take_succ_eq_append_getElem hl, List.map_append, Lw.intsV_app]; exact rfl)
      obtain ⟨r, hr⟩ : ∃ r, T[k] = r := ⟨_, rfl⟩
      rw [hr] at hcell ok hr2 TK
      obtain ⟨rA, rn, rc, rz⟩ := r
      obtain ⟨ok1, ok2, ok3⟩ := ok
      simp only [Lw.TRow.v] at hcell hr2 ok1 ok2 ok3
      have hcw := (hB.cell (p := ad.add k) (by rw [Lw.add_block]; exact had)).trans hcell
      have LF := Lib.hid (tree_leafText rA rn rc rz wr (ok1.1.below (Nat.le_refl _) hB) (by omega))
      have HO := Lib.hid (fun A c w R => hash_Of A (1 + rn) c (0 :: rz) w R (Lw.leafT_byt ok2) (by omega))
      have LS : Hid (Lw.lfS ⟨rA, rn, rc, rz⟩ = Lw.hsum (0 :: rz)) := rfl
      rw [LS.out] at TK
      obtain ⟨h, hh⟩ : ∃ h, Lw.hsum (0 :: rz) = h := ⟨_, rfl⟩
      rw [hh] at HO TK
      have OWN := Lib.hid own
      have hsz := hB.size
      clear own ok1 ok2 ok3 hr hh hcell
      go_wp2_with fail
      refine LF.out.mono ?_
      rintro e w1 ⟨A1, c1, rfl, own1, hb1⟩
      have RT := Lib.hid (Lw.Rd.of_own own1)
      have hs1 := hb1.size
      have hB1 := Lw.bt hB hb1
      clear own1
      go_wp2_with fail
      refine (HO.out _ _ _ RT.out).mono ?_
      rintro e w2 ⟨rfl, hb2⟩
      have hs2 := hb2.size
      have hB2 := Lw.bt hB1 hb2
      have O2 := Lib.hid (Lw.ownsBelow (Lw.ownsBelow OWN.out (Nat.le_refl _) hb1) (Nat.le_refl _) hb2)
      go_wp2_with (at_builtin; refine Lw.wpList_app elU32 rfl _ _ rfl rfl (O2.out.alloc _) rfl (Lw.Rd.lit (Lw.blk_new' rfl _ _) rfl rfl) (Lw.intsV_one _ [h]) (by omega) (Lw.balloc hB2 _) (Nat.le_refl _) (by simp; omega) ?_; intro v3 w3 own3 hb3 hg3 _)
      go_roundw
      case rel => exact ⟨k + 1, by go_num, by omega, hb3, by rw [TK.out]; exact own3⟩
      case measure => simp [intOf]; omega
    · have hlt' : ¬ (k : Int) < (n : Int) := by omega
      obtain rfl : k = n := by omega
      have hk : T.take k = T := List.take_of_length_le (by rw [LT.out]; omega)
      rw [hk] at own
      obtain ⟨A0, c0, rfl, hc0, _, hA0⟩ := Lw.ownsForm own
      have R0 := Lw.Rd.of_own own
      obtain ⟨g0, rfl, hg0, hg1⟩ : ∃ g, A0 = some ⟨g, 0, none⟩ ∧ w.heap.size ≤ g ∧ g < wr.heap.size := by
        rcases hA0 with rfl | h
        · obtain ⟨_, h2, _⟩ := R0.2 h0; cases h2
        · exact h
      have J0 := Lib.hid (HJ0.out wr g0 hB hg0)
      have R0 := Lib.hid (show Lw.Rd wr 1 (some ⟨g0, 0, none⟩) k (Lw.intsV .u32 (Lw.ndR T 0)) from R0)
      clear own hk LT
      go_wp2
      go_loopw [5] (fun v wr => ∃ (j g m d : Nat), (v = .slice (some ⟨g, 0, none⟩) m d ∧ 1 ≤ m ∧ m ≤ 64 ∧ m ≤ d ∧ g < wr.heap.size) ∧ Hid (m = Lw.mny k j ∧ ∀ i < j, 1 < Lw.mny k i) ∧ Hid (Lw.Rd wr 1 (some ⟨g, 0, none⟩) m (Lw.intsV .u32 (Lw.ndR T j))) ∧ Hid (J j g wr)) (fun v _ => lenOfSl v)
      case atStart => exact ⟨0, g0, k, c0, ⟨rfl, by omega, hn, hc0, hg1⟩, ⟨rfl, fun i hi => by omega⟩, R0, J0⟩
      case round =>
        obtain ⟨j, g, m, d, ⟨rfl, m1, m2, m3, m4⟩, HM, RJ, JJ⟩ := hrel
        by_cases h1 : 1 < m
        · have h1' : (1 : Int) < (m : Int) := by omega
          have VS := Lib.hid (HV.out j g wr m d JJ.out m4 RJ.out h1 m2 m3)
          go_wp2_with fail
          refine VS.out.mono ?_
          rintro e w1 ⟨⟨v1, rfl⟩, J1, hbl⟩
          have R1 := Lw.rd_blk RJ.out hbl
          have J1 := Lib.hid J1
          have UP := Lib.hid (tree_up _ m d _ w1 R1 (Lw.ndR_bd T j) (by omega) (by omega) m3)
          clear R1 hbl
          go_wp2_with fail
          refine UP.out.mono ?_
          rintro e w2 ⟨A2, c2, rfl, own2, hb2⟩
          obtain ⟨A2', c2', he, hc2, _, hA2⟩ := Lw.ownsForm own2
          injection he with he1 he2 he3
          subst he1 he3
          have R2 := Lw.Rd.of_own own2
          obtain ⟨g2, rfl, hg2, hg3⟩ : ∃ g, A2 = some ⟨g, 0, none⟩ ∧ w1.heap.size ≤ g ∧ g < w2.heap.size := by
            rcases hA2 with rfl | h
            · obtain ⟨_, h2, _⟩ := R2.2 (by omega); cases h2
            · exact h
          have J2 := Lib.hid (HJ.out _ _ _ _ g2 J1.out hb2 hg2)
          go_wp2
          go_roundw
          case rel => exact ⟨j + 1, g2, (m + 1) / 2, c2, ⟨rfl, by omega, by omega, hc2, hg3⟩, ⟨by rw [HM.out.1]; rfl, fun i hi => by rcases Nat.lt_succ_iff_lt_or_eq.1 hi with h | rfl; exact HM.out.2 i h; rw [← HM.out.1]; exact h1⟩, R2, J2⟩
          case measure => simp [lenOfSl]; omega
        · have h1' : ¬ (1 : Int) < (m : Int) := by omega
          obtain rfl : m = 1 := by omega
          have HG : Hid (Lw.hgt k = j) := Lw.hgt_eq (by rw [← HM.out.1]; exact Nat.le_refl _) HM.out.2
          obtain ⟨x, hx⟩ : ∃ x, Lw.ndR T j = [x] := by
            have := RJ.out.1
            simp [Lw.intsV] at this
            exact List.length_eq_one_iff.1 this
          have RX := RJ.out
          rw [hx] at RX
          obtain ⟨ad', e', _, hc'⟩ := RX.at1 (x := .int .u32 x) (k := 0) (by omega) rfl
          injection e' with e'
          subst e'
          have hc2 : wr.cell? ⟨g, 0, none⟩ = some (.int .u32 x) := hc'
          have EX : Hid ((Lw.ndR T j).getD 0 0 = x) := by rw [hx]; exact rfl
          clear hc' RX hx
          go_wp2
          go_ret
          exact ⟨by rw [HG.out]; show _ = Ending.returned (.int .u32 ((Lw.ndR T j).getD 0 0)); rw [EX.out]; exact rfl, g, by rw [HG.out]; exact JJ.out⟩

abbrev PJ := Lw.PrJ 3 41 33
set_option maxRecDepth 100000 in
set_option maxHeartbeats 4000000 in
theorem prove_visit (T : List Lw.TRow) (n i : Nat) (w : World) (k av : Nat) (W : World) (m d : Nat) (hi : i < n) (hn : n ≤ 64) (hk : k ≤ 64) (hT : T.length = n) (hJ : PJ T n i w k av W) (hav : av < W.heap.size)
    (R : Lw.Rd W 1 (some ⟨av, 0, none⟩) m (Lw.intsV .u32 (Lw.ndR T k))) :
    Calls Try.prog 51 #[.slice (some ⟨av, 0, none⟩) m d, .pointer (some ⟨w.heap.size, 0, none⟩), .pointer (some ⟨w.heap.size + 1, 0, none⟩)] W (Lw.VisR 3 41 33 (Lw.prfL T n i (k + 1)) (i / 2 ^ (k + 1)) av w W) := by
  obtain ⟨ha, hB, bI, v, bL, own, hne⟩ := hJ
  have hm : m = Lw.mny n k := by have := R.1; simp [Lw.intsV] at this; rw [← this, Lw.ndR_length, hT]
  have hml := Lw.mny_le hn k
  have HP := Lib.hid (Lw.half_pow i k)
  have hip : i / 2 ^ k < 64 := Nat.lt_of_le_of_lt (Nat.div_le_self _ _) (by omega)
  have PI := fun h => Lw.prf_in (T := T) (n := n) (i := i) (k := k) h
  have PO := fun h => Lw.prf_out (T := T) (n := n) (i := i) (k := k) h
  rw [← hm] at PI PO hml
  have pl := Lw.prf_len T n i k
  obtain ⟨P, hPd⟩ : ∃ P, Lw.prfL T n i k = P := ⟨_, rfl⟩
  rw [hPd] at own PI PO pl
  rw [← HP.out]
  obtain ⟨P2, hP2⟩ : ∃ P, Lw.prfL T n i (k + 1) = P := ⟨_, rfl⟩
  rw [hP2] at PI PO ⊢
  generalize i / 2 ^ k = j at *
  have hX := Lw.i64_xor_nat j 1 (by omega) (by omega)
  rw [show ((1 : Nat) : Int) = 1 from rfl] at hX
  have hx64 : j ^^^ 1 < 64 := Nat.xor_lt_two_pow (n := 6) (by omega) (by omega)
  obtain ⟨x, hx⟩ : ∃ x, j ^^^ 1 = x := ⟨_, rfl⟩
  rw [hx] at hX PI PO hx64
  have c0 := Lw.blk_cell bI 0
  have f0 := Lw.blk_free bI 0
  have c1 := Lw.blk_cell bL 0
  have f1 := Lw.blk_free bL 0
  simp at c0 c1
  have hj2 : (j : Int) / 2 = ((j / 2 : Nat) : Int) := by omega
  have HJ2 := Lib.hid hj2
  clear hj2
  clear hm
  have hLs := Lw.blk_lt bL
  obtain ⟨Av, gv, rfl, _⟩ := Lw.ownsForm own
  by_cases hlt : x < m
  · have hlt' : (x : Int) < (m : Int) := by omega
    have hl : x < (Lw.ndR T k).length := by have := R.1; simp [Lw.intsV] at this; omega
    obtain ⟨ad, e', _, hcell⟩ := R.at1 hlt (Lw.intsV_get hl)
    injection e' with e'
    subst e'
    have hz : (Lw.ndR T k).getD x 0 = (Lw.ndR T k)[x] := by rw [List.getD_eq_getElem?_getD, List.getElem?_eq_getElem hl]; rfl
    replace PI := PI hlt
    rw [hz] at PI
    obtain ⟨z, hz2⟩ : ∃ z, (Lw.ndR T k)[x] = z := ⟨_, rfl⟩
    rw [hz2, Lw.addr_cell] at hcell
    rw [hz2] at PI
    replace PI := Lib.hid PI
    have cA : (W.alloc (.cells #[.int .u32 z] 33)).cell? ⟨w.heap.size + 1, 0, none⟩ = some (.slice Av P.length gv) := by
      have := Lw.blk_cell (Lw.blk_alloc bL (.cells #[.int .u32 z] 33)) 0
      simpa using this
    have SX : ∀ W' : World, W'.heap[av]? = W.heap[av]? → (W'.cell? ((⟨av, x, none⟩ : Addr)) = some (.int .u32 z) ∧ True ∧ True ∧ True) := fun W' h => ⟨(Lw.cell_of_blk (W := W) _ h).trans hcell, trivial, trivial, trivial⟩
    have hwd : W.drew.heap.size = W.heap.size := rfl
    have hbD : Below w.heap.size w W.drew := Below.drew hB
    have hA1 : (W.drew.alloc (.cells #[.int .u32 z] 33)).heap[av]? = W.heap[av]? := Below.heap_alloc _ _ _ hav
    clear PO hz hz2 hPd hP2 hx hT R
    have END : Hid (∀ (w3 : World) (Aq : Option Addr) (gq : Nat), w3.ownsRow (w.heap.size + 2) 33 1 (.slice Aq (P.length + 1) gq) (P.length + 1) (Lw.intsV .u32 P ++ Lw.intsV .u32 [z]) → Below w.heap.size w w3 → (W.drew.alloc (.cells #[.int .u32 z] 33)).grownBy w3 (Value.slice Av P.length gv).ownBlock → ((Value.slice Aq (P.length + 1) gq).ownBlock = (Value.slice Av P.length gv).ownBlock ∨ (Value.slice Aq (P.length + 1) gq).ownBlock = some (W.drew.alloc (.cells #[.int .u32 z] 33)).heap.size) →
        (w3.heap[av]? = W.heap[av]? ∧ w3.heap[w.heap.size]? = W.heap[w.heap.size]? ∧ w3.heap[w.heap.size + 1]? = W.heap[w.heap.size + 1]?) ∧ (Value.slice Aq (P.length + 1) gq).ownBlock ≠ some av) := by
      intro w3 Aq gq own3 hb3 hg3 ho3
      have E3 := Lw.app_end (W := W.drew) (Lw.own_drew own) (Lw.balloc (Below.refl _ _) _) hg3
      refine ⟨⟨?_, E3.2 _ (by omega) (by omega), E3.2 _ (by omega) (by omega)⟩, ?_⟩
      · refine (hg3.block av (by simp; omega) (fun e => hne e.symm)).trans hA1
      · rcases ho3 with e | e
        · rw [e]; exact hne
        · rw [e]; intro h; injection h with h; simp at h; omega
    go_enter Try.func51, Try.ntmps51
    go_wp2_with fail
    refine wp_region_held_drew (S := fun w' => w'.cell? ((⟨av, x, none⟩ : Addr)) = some (.int .u32 z) ∧ True ∧ True ∧ True) (by kernel_rfl) (SX _ rfl) (fun hHeld => ?_)
    (refine Lw.take1 (i := 1) (v := ?_) rfl (by kernel_rfl) (by kernel_rfl) (by kernel_rfl) (fun _ _ _ h => h) (Or.inl ⟨by rfl, ?_⟩) (by assumption) ?_; rotate_left 1; (focus (intro wS hSw; obtain ⟨hS1, hS2, hS3, hS4⟩ := hSw; go_simp <;> with_reducible rfl)); (try simp only [Act.put, List.setIfInBounds_toArray, List.set_cons_zero, List.set_cons_succ]))
    (refine Lw.take1 (i := 2) (v := ?_) rfl (by kernel_rfl) (by kernel_rfl) (by kernel_rfl) (fun _ _ _ h => h) (Or.inl ⟨by rfl, ?_⟩) (by assumption) ?_; rotate_left 1; (focus (intro wS hSw; obtain ⟨hS1, hS2, hS3, hS4⟩ := hSw; go_simp <;> with_reducible rfl)); (try simp only [Act.put, List.setIfInBounds_toArray, List.set_cons_zero, List.set_cons_succ]))
    (refine Lw.take1 (i := 3) (v := ?_) rfl (by kernel_rfl) (by kernel_rfl) (by kernel_rfl) (fun _ _ _ h => h) (Or.inl ⟨by rfl, ?_⟩) (by assumption) ?_; rotate_left 1; (focus (intro wS hSw; obtain ⟨hS1, hS2, hS3, hS4⟩ := hSw; go_simp <;> with_reducible rfl)); (try simp only [Act.put, List.setIfInBounds_toArray, List.set_cons_zero, List.set_cons_succ]))
    (refine Lw.take1 (i := 4) (v := ?_) rfl (by kernel_rfl) (by kernel_rfl) (by kernel_rfl) (fun _ _ _ h => h) (Or.inl ⟨by rfl, ?_⟩) (by assumption) ?_; rotate_left 1; (focus (intro wS hSw; obtain ⟨hS1, hS2, hS3, hS4⟩ := hSw; go_simp <;> with_reducible rfl)); (try simp only [Act.put, List.setIfInBounds_toArray, List.set_cons_zero, List.set_cons_succ]))
    refine wpAnyH_ready (rs := [0, 5]) (by kernel_rfl) (by simp) ?_
    refine Lw.cons1 (i := 0) rfl (fun K hK => ?_) (Lw.cons1 (i := 5) rfl (fun K hK => ?_) AllReadyH.nil)
    · (go_simp; refine hK.out _ _ ?_ (fun hHeld => ?_); (focus exact SX _ rfl); clear hK K; (try simp only [Act.put, List.setIfInBounds_toArray, List.set_cons_zero, List.set_cons_succ]))
      (refine wpAnyH_ready (rs := [5]) (by kernel_rfl) (by simp) ?_; refine Lw.cons1 (i := 5) rfl (fun K hK => ?_) AllReadyH.nil; go_simp; refine hK.out _ _ ?_ (fun hHeld => ?_); (focus exact SX _ hA1); clear hK K; (try simp only [Act.put, List.setIfInBounds_toArray, List.set_cons_zero, List.set_cons_succ]))
      (refine wpAnyH_ready (rs := [6]) (by kernel_rfl) (by simp) ?_; refine Lw.cons1 (i := 6) rfl (fun K hK => ?_) AllReadyH.nil; refine Lw.step_app elU32 rfl _ _ rfl rfl (World.ownsRow.alloc (Lw.own_drew own) _) rfl (Lw.Rd.lit (Lw.blk_new' rfl _ _) rfl rfl) (Lw.intsV_one _ [z]) (by omega) (Lw.balloc hbD _) (by omega) (by simp; omega) ?_; intro v3 w3 own3 hb3 hg3 ho3; refine hK.out _ _ ?_ (fun hHeld => ?_); (focus exact SX _ ((hg3.block av (by simp; omega) (fun e => hne e.symm)).trans hA1)); clear hK K; (try simp only [Act.put, List.setIfInBounds_toArray, List.set_cons_zero, List.set_cons_succ]))
      obtain ⟨Aq, gq, rfl, _⟩ := Lw.ownsForm own3
      obtain ⟨⟨q1, q2, q3⟩, q4⟩ := END.out w3 Aq gq own3 hb3 hg3 ho3
      have BL3 := q3.trans bL
      have g3 := Lw.blk_cell BL3 0
      have f3 := Lw.blk_free BL3 0
      simp at g3
      have hav2 : (w3.setCell ⟨w.heap.size + 1, 0, none⟩ (.slice Aq (P.length + 1) gq)).heap[av]? = W.heap[av]? := (Below.heap_setCell _ _ _ _ (by show av ≠ w.heap.size + 1; omega)).trans q1
      (refine wpAnyH_ready (rs := [7]) (by kernel_rfl) (by simp) ?_; refine Lw.cons1 (i := 7) rfl (fun K hK => ?_) AllReadyH.nil; go_simp; refine hK.out _ _ ?_ (fun hHeld => ?_); (focus exact SX _ hav2); clear hK K; (try simp only [Act.put, List.setIfInBounds_toArray, List.set_cons_zero, List.set_cons_succ]))
      refine wpAnyH_done (by kernel_rfl) ?_ _
      have BI3 := (Below.heap_setCell w3 ⟨w.heap.size + 1, 0, none⟩ (.slice Aq (P.length + 1) gq) w.heap.size (by show w.heap.size ≠ w.heap.size + 1; omega)).trans (q2.trans bI)
      have d3 := Lw.blk_cell BI3 0
      have e3 := Lw.blk_free BI3 0
      simp at d3
      clear hHeld
      go_wp2
      go_end0
      have hh : (((w3.setCell ⟨w.heap.size + 1, 0, none⟩ (.slice Aq (P.length + 1) gq))).setCell ⟨w.heap.size, 0, none⟩ (.int .i64 ((j : Int) / 2))).heap[w.heap.size + 1]? = some (.cells #[.slice Aq (P.length + 1) gq] 41 (0, 0)) := (Below.heap_setCell _ _ _ _ (by show w.heap.size + 1 ≠ w.heap.size; omega)).trans (Lw.blk_set_same BL3 0 _)
      refine ⟨⟨_, rfl⟩, ⟨ha, (hb3.setCell (p := ⟨w.heap.size + 1, 0, none⟩) (by show w.heap.size ≤ w.heap.size + 1; omega) _).setCell (p := ⟨w.heap.size, 0, none⟩) (Nat.le_refl _) _, by rw [← HJ2.out]; exact Lw.blk_set_same BI3 0 _, _, hh, ?_, q4⟩, (Below.heap_setCell _ _ _ _ (by show av ≠ w.heap.size; omega)).trans hav2⟩
      rw [PI.out, Lw.intsV_app, List.length_append]
      exact Lw.bset_own (Lw.bset_own own3 (by omega)) (by omega)
    · (go_simp; refine hK.out _ _ ?_ (fun hHeld => ?_); (focus exact SX _ hA1); clear hK K; (try simp only [Act.put, List.setIfInBounds_toArray, List.set_cons_zero, List.set_cons_succ]))
      (refine wpAnyH_ready (rs := [0]) (by kernel_rfl) (by simp) ?_; refine Lw.cons1 (i := 0) rfl (fun K hK => ?_) AllReadyH.nil; go_simp; refine hK.out _ _ ?_ (fun hHeld => ?_); (focus exact SX _ hA1); clear hK K; (try simp only [Act.put, List.setIfInBounds_toArray, List.set_cons_zero, List.set_cons_succ]))
      (refine wpAnyH_ready (rs := [6]) (by kernel_rfl) (by simp) ?_; refine Lw.cons1 (i := 6) rfl (fun K hK => ?_) AllReadyH.nil; refine Lw.step_app elU32 rfl _ _ rfl rfl (World.ownsRow.alloc (Lw.own_drew own) _) rfl (Lw.Rd.lit (Lw.blk_new' rfl _ _) rfl rfl) (Lw.intsV_one _ [z]) (by omega) (Lw.balloc hbD _) (by omega) (by simp; omega) ?_; intro v3 w3 own3 hb3 hg3 ho3; refine hK.out _ _ ?_ (fun hHeld => ?_); (focus exact SX _ ((hg3.block av (by simp; omega) (fun e => hne e.symm)).trans hA1)); clear hK K; (try simp only [Act.put, List.setIfInBounds_toArray, List.set_cons_zero, List.set_cons_succ]))
      obtain ⟨Aq, gq, rfl, _⟩ := Lw.ownsForm own3
      obtain ⟨⟨q1, q2, q3⟩, q4⟩ := END.out w3 Aq gq own3 hb3 hg3 ho3
      have BL3 := q3.trans bL
      have g3 := Lw.blk_cell BL3 0
      have f3 := Lw.blk_free BL3 0
      simp at g3
      have hav2 : (w3.setCell ⟨w.heap.size + 1, 0, none⟩ (.slice Aq (P.length + 1) gq)).heap[av]? = W.heap[av]? := (Below.heap_setCell _ _ _ _ (by show av ≠ w.heap.size + 1; omega)).trans q1
      (refine wpAnyH_ready (rs := [7]) (by kernel_rfl) (by simp) ?_; refine Lw.cons1 (i := 7) rfl (fun K hK => ?_) AllReadyH.nil; go_simp; refine hK.out _ _ ?_ (fun hHeld => ?_); (focus exact SX _ hav2); clear hK K; (try simp only [Act.put, List.setIfInBounds_toArray, List.set_cons_zero, List.set_cons_succ]))
      refine wpAnyH_done (by kernel_rfl) ?_ _
      have BI3 := (Below.heap_setCell w3 ⟨w.heap.size + 1, 0, none⟩ (.slice Aq (P.length + 1) gq) w.heap.size (by show w.heap.size ≠ w.heap.size + 1; omega)).trans (q2.trans bI)
      have d3 := Lw.blk_cell BI3 0
      have e3 := Lw.blk_free BI3 0
      simp at d3
      clear hHeld
      go_wp2
      go_end0
      have hh : (((w3.setCell ⟨w.heap.size + 1, 0, none⟩ (.slice Aq (P.length + 1) gq))).setCell ⟨w.heap.size, 0, none⟩ (.int .i64 ((j : Int) / 2))).heap[w.heap.size + 1]? = some (.cells #[.slice Aq (P.length + 1) gq] 41 (0, 0)) := (Below.heap_setCell _ _ _ _ (by show w.heap.size + 1 ≠ w.heap.size; omega)).trans (Lw.blk_set_same BL3 0 _)
      refine ⟨⟨_, rfl⟩, ⟨ha, (hb3.setCell (p := ⟨w.heap.size + 1, 0, none⟩) (by show w.heap.size ≤ w.heap.size + 1; omega) _).setCell (p := ⟨w.heap.size, 0, none⟩) (Nat.le_refl _) _, by rw [← HJ2.out]; exact Lw.blk_set_same BI3 0 _, _, hh, ?_, q4⟩, (Below.heap_setCell _ _ _ _ (by show av ≠ w.heap.size; omega)).trans hav2⟩
      rw [PI.out, Lw.intsV_app, List.length_append]
      exact Lw.bset_own (Lw.bset_own own3 (by omega)) (by omega)
  · have hlt' : ¬ (x : Int) < (m : Int) := by omega
    replace PO := Lib.hid (PO hlt)
    clear PI hPd hP2 hx hT R
    go_enter Try.func51, Try.ntmps51
    go_wp2
    go_end0
    refine ⟨⟨_, rfl⟩, ⟨ha, hB.setCell (p := ⟨w.heap.size, 0, none⟩) (Nat.le_refl _) _, by rw [← HJ2.out]; exact Lw.blk_set_same bI 0 _, _, (Below.heap_setCell _ _ _ _ (by show w.heap.size + 1 ≠ w.heap.size; omega)).trans bL, ?_, hne⟩, (Below.heap_setCell _ _ _ _ (by show av ≠ w.heap.size; omega))⟩
    rw [PO.out]
    exact Lw.bset_own own (by omega)
end Go.Proofs.Ytnlbnadjolfjpaa
