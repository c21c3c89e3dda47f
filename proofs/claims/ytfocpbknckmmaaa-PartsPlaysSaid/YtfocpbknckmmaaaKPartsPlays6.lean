/- Package parts: a value in shares. -/
import Derived.Test.YtfocpbknckmmaaaKPartsPlays5
namespace Lw
open Go Go.RowKit
theorem takR_spl (rest : List Int) (t : Nat) : takR rest 0 t = rest.take t ++ List.replicate (t - rest.length) 0 := by
  apply List.ext_getElem
  · simp [takR]; omega
  · intro i h1 h2
    have hi : i < t := by simpa [takR] using h1
    simp only [takR, List.getElem_map, List.getElem_range, Nat.zero_add]
    by_cases h : i < rest.length
    · rw [List.getElem_append_left (by simp; omega), List.getElem_take, getD_at' h]
    · rw [List.getElem_append_right (by simp; omega), List.getElem_replicate, List.getD_eq_getElem?_getD, List.getElem?_eq_none (by omega)]; rfl
theorem splice_tak (rest : List Int) (t : Nat) : Go.splice (List.replicate t (Value.int .i64 0)) 0 (intsV .i64 (rest.take t)) = intsV .i64 (takR rest 0 t) := by
  rw [takR_spl]
  simp only [Go.splice, intsV, List.map_append, List.map_replicate, List.take_zero, List.nil_append, List.drop_replicate, List.length_map, List.length_take, Nat.zero_add]
  congr 2
  omega
theorem settwo4 {W : World} {b : Nat} {v0 v1 v2 v3 u : Value} {t : TypeId} (h : W.heap[b]? = some (.cells #[v0, v1, v2, v3] t (0, 0))) : (W.setCell ⟨b, 3, none⟩ u).heap[b]? = some (.cells #[v0, v1, v2, u] t (0, 0)) := by
  have h2 := blk_set_same h 3 u
  simpa using h2
theorem rd_cut {w : World} {n c k t : Nat} {A : Option Addr} {rest : List Int} (h : Rd w 1 A n (intsV .i64 rest)) (hk : k = min t n) (hc : n ≤ c) : Rd w 1 (if c = k then A else A.map (·.add k)) (n - k) (intsV .i64 (rest.drop t)) := by
  have hl : rest.length = n := by have := h.1; simpa [intsV] using this
  refine ⟨by simp [intsV]; omega, fun h0 => ?_⟩
  obtain ⟨ad, e, hb, hx⟩ := h.2 (by omega)
  subst e
  rw [if_neg (by omega)]
  refine ⟨ad.add k, rfl, by rw [add_block]; exact hb, fun j u hu => ?_⟩
  rw [add_add]
  refine hx _ _ ?_
  have hkt : k = t := by omega
  subst hkt
  simp only [intsV, List.getElem?_map, List.getElem?_drop] at hu ⊢
  exact hu
end Lw
set_option linter.unusedVariables false
set_option linter.unusedSimpArgs false
namespace Go.Proofs.Ytfocpbknckmmaaa
open Go.RowKit
def CrwR (b : Nat) (p t n : Int) (rest : List Int) (w : World) : Prop := ∃ RA rn rc, CrwB b p t n RA rn rc w ∧ Lw.Rd w 1 RA rn (Lw.intsV .i64 rest) ∧ rn ≤ rc ∧ ∀ ad, RA = some ad → 0 < rn → ad.block < b
set_option maxRecDepth 100000 in
set_option maxHeartbeats 4000000 in
theorem crowd_share (p x : Int) (t n b : Nat) (rest : List Int) (w : World) (hc : CrwR b p t n rest w) (hp : Lw.pprE p = 0) (ht : t ≤ 4) (hn : (n : Int) < p) (x0 : 0 ≤ x) (x1 : x < p) (hr : ∀ y ∈ rest, 0 ≤ y ∧ y < p) :
    Calls Try.prog 18 #[.pointer (some ⟨b, 0, none⟩), .int .i64 x] w fun e w' => ∃ C g, e = .returned (.slice C n g) ∧ w'.ownsRow w.heap.size 2 1 (.slice C n g) n (Lw.intsV .i64 (Lw.shrL p x (Lw.takR rest 0 t) n)) ∧ CrwR b p t n (rest.drop t) w' ∧ Lw.Tn b w w' := by
  obtain ⟨RA, rn, rc, hb, R, hrc, hA⟩ := hc
  obtain ⟨p1, p2, pp⟩ := Lw.ppr_ok hp
  have lr : rest.length = rn := by have := R.1; simpa [Lw.intsV] using this
  have TB := Lw.takR_bd (by omega : 0 < p) hr 0 t
  have TL := Lw.takR_len rest 0 t
  have hout : Lw.outR p (x :: Lw.takR rest 0 t) = false := by
    cases h : Lw.outR p (x :: Lw.takR rest 0 t) with
    | false => rfl
    | true =>
      obtain ⟨y, hy, h2⟩ := List.any_eq_true.1 h
      have hy2 : 0 ≤ y ∧ y < p := by
        rcases List.mem_cons.1 hy with rfl | hy
        · exact ⟨x0, x1⟩
        · exact TB y hy
      simp at h2; omega
  have SP := Lib.hid (fun W R => share_Split_ok p x n (some ⟨w.heap.size, 0, none⟩) t t (Lw.takR rest 0 t) W R hp (by omega) hout hn)
  have SL := Lib.hid (fun k => Lw.shrL_succ p x (Lw.takR rest 0 t) k)
  have S0 : Hid (Lw.shrL p x (Lw.takR rest 0 t) 0 = []) := rfl
  have PL := Lib.hid (Lw.ptsL_len p (x :: Lw.takR rest 0 t) n)
  have PG : Hid (∀ k (h : k < (Lw.ptsL p (x :: Lw.takR rest 0 t) n).length), (Lw.ptsL p (x :: Lw.takR rest 0 t) n)[k] = ((k : Int) + 1, Lw.hornV p (x :: Lw.takR rest 0 t) ((k : Int) + 1))) := fun k h => by simp [Lw.ptsL]
  have c0 := Lw.blk_cell hb 0; have c1 := Lw.blk_cell hb 1; have c2 := Lw.blk_cell hb 2; have c3 := Lw.blk_cell hb 3
  simp at c0 c1 c2 c3
  have hltb := Lw.blk_lt hb
  have M : ∀ w : World, (Instr.makeSlice 23 (.int .i64 (t : Int)) (.int .i64 (t : Int))).run Try.prog w = .ok (.slice (some ⟨w.heap.size, 0, none⟩) t t) (w.alloc (.cells (List.replicate t (Value.int .i64 0)).toArray 2)) := fun w => Lw.run_mk elPly rfl .i64 .i64 t (by omega) w
  obtain ⟨W, hW⟩ : ∃ W, w.alloc (.cells (Array.replicate t (Value.int .i64 0)) 2) = W := ⟨_, rfl⟩
  have G : Hid (W.drew.heap[w.heap.size]? = some (.cells (List.replicate t (Value.int .i64 0)).toArray 2 (0, 0))) := by
    unfold Hid
    rw [List.toArray_replicate, ← hW]; exact Lw.blk_new w _ _
  have hBW : Below w.heap.size w W.drew := by rw [← hW]; exact Below.drew (Lw.balloc (Below.refl _ _) _)
  have q3 : W.drew.cell? ⟨b, 3, none⟩ = some (.slice RA rn rc) := (hBW.cell (p := ⟨b, 3, none⟩) hltb).trans c3
  have RW := R.below (Nat.le_refl _) hBW
  have P1 := Lib.hid (show 0 < (Lw.intsV .i64 (rest.take t)).length → ∃ ad, RA = some ad ∧ ∀ j v, (Lw.intsV .i64 (rest.take t))[j]? = some v → W.drew.cell? (ad.add j) = some v from fun hp => by
    simp [Lw.intsV] at hp
    obtain ⟨ad, e, _, h3⟩ := RW.2 (by omega)
    refine ⟨ad, e, fun j v hv => h3 j v ?_⟩
    simp only [Lw.intsV, List.getElem?_map, List.getElem?_take] at hv ⊢
    split at hv
    · exact hv
    · cases hv)
  have CS1 := Lib.hid (show (Lw.intsV .i64 (rest.take t)).length = Nat.min rn t by simp [Lw.intsV, lr]; exact Nat.min_comm _ _)
  have CS2 := Lib.hid (show 0 + (Lw.intsV .i64 (rest.take t)).length ≤ (List.replicate t (Value.int .i64 0)).length by simp [Lw.intsV]; omega)
  have CS3 := Lib.hid (Lw.intsV_one .i64 (rest.take t))
  have CS4 := Lib.hid (Lw.splice_tak rest t)
  obtain ⟨cs, hcs⟩ : ∃ cs, Lw.intsV .i64 (rest.take t) = cs := ⟨_, rfl⟩
  obtain ⟨kk, hkk⟩ : ∃ kk, min t rn = kk := ⟨_, rfl⟩
  rw [hcs] at P1 CS1 CS2 CS3 CS4
  have CS5 : Hid (cs.length = kk) := by have := CS1.out; rw [← hkk, this]; exact Nat.min_comm _ _
  have k1 : (kk : Int) ≤ (rn : Int) := by omega
  have k0 : (0 : Int) ≤ (kk : Int) := by omega
  obtain ⟨V, hV⟩ : ∃ V, (if rc = kk then RA else RA.map (·.add kk)) = V := ⟨_, rfl⟩
  have HV := Lib.hid hV
  clear hV
  have HW := Lib.hid hW
  have HB := Lib.hid hb
  have RR := Lib.hid R
  have HA := Lib.hid hA
  have HK := Lib.hid hkk
  clear hW hcs hkk R RW hb hA TB TL hout hr c0 c2 lr
  go_enter Try.func18, Try.ntmps18
  go_wp2_with fail
  rw [HW.out]
  refine wp_region_held_drew (S := fun w' => True ∧ True ∧ True ∧ True) (by kernel_rfl) (by exact ⟨trivial, trivial, trivial, trivial⟩) (fun hHeld => ?_)
  (refine Lw.take1 (i := 0) (v := ?_) rfl (by kernel_rfl) (by kernel_rfl) (by kernel_rfl) (fun _ _ _ h => h) (Or.inl ⟨by rfl, ?_⟩) (by assumption) ?_; rotate_left 1; (focus (intro wS hSw; obtain ⟨hS1, hS2, hS3, hS4⟩ := hSw; go_simp <;> with_reducible rfl)); (try simp only [Act.put, List.setIfInBounds_toArray, List.set_cons_zero, List.set_cons_succ]))
  (refine Lw.take1 (i := 1) (v := ?_) rfl (by kernel_rfl) (by kernel_rfl) (by kernel_rfl) (fun _ _ _ h => h) (Or.inl ⟨by rfl, ?_⟩) (by assumption) ?_; rotate_left 1; (focus (intro wS hSw; obtain ⟨hS1, hS2, hS3, hS4⟩ := hSw; go_simp <;> with_reducible rfl)); (try simp only [Act.put, List.setIfInBounds_toArray, List.set_cons_zero, List.set_cons_succ]))
  (refine Lw.take1 (i := 2) (v := ?_) rfl (by kernel_rfl) (by kernel_rfl) (by kernel_rfl) (fun _ _ _ h => h) (Or.inl ⟨by rfl, ?_⟩) (by assumption) ?_; rotate_left 1; (focus (intro wS hSw; obtain ⟨hS1, hS2, hS3, hS4⟩ := hSw; go_simp <;> with_reducible rfl)); (try simp only [Act.put, List.setIfInBounds_toArray, List.set_cons_zero, List.set_cons_succ]))
  (refine Lw.take1 (i := 3) (v := ?_) rfl (by kernel_rfl) (by kernel_rfl) (by kernel_rfl) (fun _ _ _ h => h) (Or.inl ⟨by rfl, ?_⟩) (by assumption) ?_; rotate_left 1; (focus (intro wS hSw; obtain ⟨hS1, hS2, hS3, hS4⟩ := hSw; go_simp <;> with_reducible rfl)); (try simp only [Act.put, List.setIfInBounds_toArray, List.set_cons_zero, List.set_cons_succ]))
  (refine Lw.take1 (i := 5) (v := ?_) rfl (by kernel_rfl) (by kernel_rfl) (by kernel_rfl) (fun _ _ _ h => h) (Or.inl ⟨by rfl, ?_⟩) (by assumption) ?_; rotate_left 1; (focus (intro wS hSw; obtain ⟨hS1, hS2, hS3, hS4⟩ := hSw; go_simp <;> with_reducible rfl)); (try simp only [Act.put, List.setIfInBounds_toArray, List.set_cons_zero, List.set_cons_succ]))
  (refine Lw.take1 (i := 6) (v := ?_) rfl (by kernel_rfl) (by kernel_rfl) (by kernel_rfl) (fun _ _ _ h => h) (Or.inl ⟨by rfl, ?_⟩) (by assumption) ?_; rotate_left 1; (focus (intro wS hSw; obtain ⟨hS1, hS2, hS3, hS4⟩ := hSw; go_simp <;> with_reducible rfl)); (try simp only [Act.put, List.setIfInBounds_toArray, List.set_cons_zero, List.set_cons_succ]))
  (refine Lw.take1 (i := 7) (v := ?_) rfl (by kernel_rfl) (by kernel_rfl) (by kernel_rfl) (fun _ _ _ h => h) (Or.inl ⟨by rfl, ?_⟩) (by assumption) ?_; rotate_left 1; (focus (intro wS hSw; obtain ⟨hS1, hS2, hS3, hS4⟩ := hSw; go_simp <;> with_reducible rfl)); (try simp only [Act.put, List.setIfInBounds_toArray, List.set_cons_zero, List.set_cons_succ]))
  (refine Lw.take1 (i := 8) (v := ?_) rfl (by kernel_rfl) (by kernel_rfl) (by kernel_rfl) (fun _ _ _ h => h) (Or.inl ⟨by rfl, ?_⟩) (by assumption) ?_; rotate_left 1; (focus (intro wS hSw; obtain ⟨hS1, hS2, hS3, hS4⟩ := hSw; go_simp <;> with_reducible rfl)); (try simp only [Act.put, List.setIfInBounds_toArray, List.set_cons_zero, List.set_cons_succ]))
  refine wpAnyH_ready (rs := [4, 9]) (by kernel_rfl) (by simp) ?_
  refine Lw.cons1 (i := 4) rfl (fun K hK => ?_) (Lw.cons1 (i := 9) rfl (fun K hK => ?_) AllReadyH.nil)
  · go_simp; refine hK.out _ _ ⟨trivial, trivial, trivial, trivial⟩ (fun hHeld => ?_); clear hK K; (try simp only [Act.put, List.setIfInBounds_toArray, List.set_cons_zero, List.set_cons_succ])
    (refine wpAnyH_ready (rs := [9]) (by kernel_rfl) (by simp) ?_; refine Lw.cons1 (i := 9) rfl (fun K hK => ?_) AllReadyH.nil; go_simp; refine hK.out _ _ ?_ (fun hHeld => ?_); (focus exact ⟨trivial, trivial, trivial, trivial⟩); clear hK K; (try simp only [Act.put, List.setIfInBounds_toArray, List.set_cons_zero, List.set_cons_succ]))
    (refine wpAnyH_ready (rs := [10]) (by kernel_rfl) (by simp) ?_; refine Lw.cons1 (i := 10) rfl (fun K hK => ?_) AllReadyH.nil)
    (refine step_copy_splice rfl (.tmp 21) (.tmp 25) 23 23 rfl 2 Try.underlying23 (by kernel_rfl) (some ⟨w.heap.size, 0, none⟩) RA t t rn rc rfl rfl w.heap.size 0 (List.replicate t (.int .i64 0)) 2 (by exact G.out) cs CS1.out (fun hp => ⟨rfl, P1.out hp⟩) CS2.out CS3.out w.heap.size w hBW (Nat.le_refl _) ?_; intro w1 hg1 hb1; rw [CS4.out] at hg1; refine hK.out _ _ ⟨trivial, trivial, trivial, trivial⟩ (fun hHeld => ?_); clear hK K; (try simp only [Act.put, List.setIfInBounds_toArray, List.set_cons_zero, List.set_cons_succ]))
    rw [CS5.out]
    have BH1 := (hb1.block b hltb).trans HB.out
    have f3 := Lw.blk_free BH1 3
    have r3 := Lw.blk_cell BH1 3
    simp at r3

    (refine Lw.take1 (i := 11) (v := .slice V (rn - kk) (rc - kk)) rfl (by kernel_rfl) (by kernel_rfl) (by kernel_rfl) (fun _ _ _ h => h) (Or.inl ⟨by rfl, ?_⟩) (by assumption) ?_; (focus (intro wS hSw; obtain ⟨hS1, hS2, hS3, hS4⟩ := hSw; go_simp <;> simp [← HV.out, *])); (try simp only [Act.put, List.setIfInBounds_toArray, List.set_cons_zero, List.set_cons_succ]))
    (refine Lw.take1 (i := 12) (v := ?_) rfl (by kernel_rfl) (by kernel_rfl) (by kernel_rfl) (fun _ _ _ h => h) (Or.inl ⟨by rfl, ?_⟩) (by assumption) ?_; rotate_left 1; (focus (intro wS hSw; obtain ⟨hS1, hS2, hS3, hS4⟩ := hSw; go_simp <;> with_reducible rfl)); (try simp only [Act.put, List.setIfInBounds_toArray, List.set_cons_zero, List.set_cons_succ]))
    (refine Lw.take1 (i := 13) (v := ?_) rfl (by kernel_rfl) (by kernel_rfl) (by kernel_rfl) (fun _ _ _ h => h) (Or.inl ⟨by rfl, ?_⟩) (by assumption) ?_; rotate_left 1; (focus (intro wS hSw; obtain ⟨hS1, hS2, hS3, hS4⟩ := hSw; go_simp <;> with_reducible rfl)); (try simp only [Act.put, List.setIfInBounds_toArray, List.set_cons_zero, List.set_cons_succ]))
    (refine wpAnyH_ready (rs := [14]) (by kernel_rfl) (by simp) ?_; refine Lw.cons1 (i := 14) rfl (fun K hK => ?_) AllReadyH.nil; go_simp; refine hK.out _ _ ?_ (fun hHeld => ?_); (focus exact ⟨trivial, trivial, trivial, trivial⟩); clear hK K; (try simp only [Act.put, List.setIfInBounds_toArray, List.set_cons_zero, List.set_cons_succ]))
    refine wpAnyH_done (by kernel_rfl) ?_ _
    go_wp2
    refine Lw.at_world (fun W3 hW3 => ?_)
    have T3 : Lw.Tn b w W3 := by rw [hW3.out]; exact (Lw.Tn.of hb1).set 3 _
    have BH3 : W3.heap[b]? = some (.cells #[.int .i64 p, .int .i64 t, .int .i64 n, .slice V (rn - kk) (rc - kk)] 44 (0, 0)) := by rw [hW3.out]; exact Lw.settwo4 BH1
    have HG3 : W3.heap[w.heap.size]? = some (.cells (Lw.intsV .i64 (Lw.takR rest 0 t)).toArray 2 (0, 0)) := by rw [hW3.out]; exact (Below.heap_setCell _ _ _ _ (show w.heap.size ≠ b by omega)).trans hg1.out
    have RM3 : Lw.Rd W3 1 (some ⟨w.heap.size, 0, none⟩) t (Lw.intsV .i64 (Lw.takR rest 0 t)) := Lw.Rd.lit HG3 rfl (by simp [Lw.intsV, Lw.takR])
    have s0 := Lw.blk_cell BH3 0; have s2 := Lw.blk_cell BH3 2
    simp at s0 s2
    have hlt3 := Lw.blk_lt BH3
    have HB3 := Lib.hid BH3
    have RM3 := Lib.hid RM3
    clear BH1 f3 r3 BH3 HG3 hg1 hb1 hHeld
    refine wp_region_held_drew (S := fun w' => w'.cell? ⟨b, 0, none⟩ = some (.int .i64 p) ∧ w'.cell? ⟨b, 2, none⟩ = some (.int .i64 (n : Int)) ∧ True ∧ True) (by kernel_rfl) (by exact ⟨s0, s2, trivial, trivial⟩) (fun hHeld => ?_)
    (refine Lw.take1 (i := 0) (v := ?_) rfl (by kernel_rfl) (by kernel_rfl) (by kernel_rfl) (fun _ _ _ h => h) (Or.inl ⟨by rfl, ?_⟩) (by assumption) ?_; rotate_left 1; (focus (intro wS hSw; obtain ⟨hS1, hS2, hS3, hS4⟩ := hSw; go_simp <;> with_reducible rfl)); (try simp only [Act.put, List.setIfInBounds_toArray, List.set_cons_zero, List.set_cons_succ]))
    (refine Lw.take1 (i := 1) (v := ?_) rfl (by kernel_rfl) (by kernel_rfl) (by kernel_rfl) (fun _ _ _ h => h) (Or.inl ⟨by rfl, ?_⟩) (by assumption) ?_; rotate_left 1; (focus (intro wS hSw; obtain ⟨hS1, hS2, hS3, hS4⟩ := hSw; go_simp <;> with_reducible rfl)); (try simp only [Act.put, List.setIfInBounds_toArray, List.set_cons_zero, List.set_cons_succ]))
    (refine Lw.take1 (i := 2) (v := ?_) rfl (by kernel_rfl) (by kernel_rfl) (by kernel_rfl) (fun _ _ _ h => h) (Or.inl ⟨by rfl, ?_⟩) (by assumption) ?_; rotate_left 1; (focus (intro wS hSw; obtain ⟨hS1, hS2, hS3, hS4⟩ := hSw; go_simp <;> with_reducible rfl)); (try simp only [Act.put, List.setIfInBounds_toArray, List.set_cons_zero, List.set_cons_succ]))
    (refine Lw.take1 (i := 3) (v := ?_) rfl (by kernel_rfl) (by kernel_rfl) (by kernel_rfl) (fun _ _ _ h => h) (Or.inl ⟨by rfl, ?_⟩) (by assumption) ?_; rotate_left 1; (focus (intro wS hSw; obtain ⟨hS1, hS2, hS3, hS4⟩ := hSw; go_simp <;> with_reducible rfl)); (try simp only [Act.put, List.setIfInBounds_toArray, List.set_cons_zero, List.set_cons_succ]))
    (refine Lw.take1 (i := 4) (v := ?_) rfl (by kernel_rfl) (by kernel_rfl) (by kernel_rfl) (fun _ _ _ h => h) (Or.inl ⟨by rfl, ?_⟩) (by assumption) ?_; rotate_left 1; (focus (intro wS hSw; obtain ⟨hS1, hS2, hS3, hS4⟩ := hSw; go_simp <;> with_reducible rfl)); (try simp only [Act.put, List.setIfInBounds_toArray, List.set_cons_zero, List.set_cons_succ]))
    (refine Lw.take1 (i := 5) (v := ?_) rfl (by kernel_rfl) (by kernel_rfl) (by kernel_rfl) (fun _ _ _ h => h) (Or.inl ⟨by rfl, ?_⟩) (by assumption) ?_; rotate_left 1; (focus (intro wS hSw; obtain ⟨hS1, hS2, hS3, hS4⟩ := hSw; go_simp <;> with_reducible rfl)); (try simp only [Act.put, List.setIfInBounds_toArray, List.set_cons_zero, List.set_cons_succ]))
    (refine Lw.take1 (i := 6) (v := ?_) rfl (by kernel_rfl) (by kernel_rfl) (by kernel_rfl) (fun _ _ _ h => h) (Or.inl ⟨by rfl, ?_⟩) (by assumption) ?_; rotate_left 1; (focus (intro wS hSw; obtain ⟨hS1, hS2, hS3, hS4⟩ := hSw; go_simp <;> with_reducible rfl)); (try simp only [Act.put, List.setIfInBounds_toArray, List.set_cons_zero, List.set_cons_succ]))
    (refine Lw.take1 (i := 7) (v := ?_) rfl (by kernel_rfl) (by kernel_rfl) (by kernel_rfl) (fun _ _ _ h => h) (Or.inl ⟨by rfl, ?_⟩) (by assumption) ?_; rotate_left 1; (focus (intro wS hSw; obtain ⟨hS1, hS2, hS3, hS4⟩ := hSw; go_simp <;> with_reducible rfl)); (try simp only [Act.put, List.setIfInBounds_toArray, List.set_cons_zero, List.set_cons_succ]))
    (refine Lw.take1 (i := 8) (v := ?_) rfl (by kernel_rfl) (by kernel_rfl) (by kernel_rfl) (fun _ _ _ h => h) (Or.inl ⟨by rfl, ?_⟩) (by assumption) ?_; rotate_left 1; (focus (intro wS hSw; obtain ⟨hS1, hS2, hS3, hS4⟩ := hSw; go_simp <;> with_reducible rfl)); (try simp only [Act.put, List.setIfInBounds_toArray, List.set_cons_zero, List.set_cons_succ]))
    (refine Lw.take1 (i := 9) (v := ?_) rfl (by kernel_rfl) (by kernel_rfl) (by kernel_rfl) (fun _ _ _ h => h) (Or.inl ⟨by rfl, ?_⟩) (by assumption) ?_; rotate_left 1; (focus (intro wS hSw; obtain ⟨hS1, hS2, hS3, hS4⟩ := hSw; go_simp <;> with_reducible rfl)); (try simp only [Act.put, List.setIfInBounds_toArray, List.set_cons_zero, List.set_cons_succ]))
    (refine wpAnyH_ready (rs := [10]) (by kernel_rfl) (by simp) ?_; refine Lw.cons1 (i := 10) rfl (fun K hK => ?_) AllReadyH.nil; go_simp; go_at_call 41; (with_reducible refine (SP.out _ RM3.out.drew).mono ?_); rintro e w4 ⟨C4, d4, rfl, R4, hb4⟩; refine hK.out _ _ ?_ (fun hHeld => ?_); (focus exact ⟨(hb4.cell (p := ⟨b, 0, none⟩) hlt3).trans s0, (hb4.cell (p := ⟨b, 2, none⟩) hlt3).trans s2, trivial, trivial⟩); clear hK K; (try simp only [Act.put, List.setIfInBounds_toArray, List.set_cons_zero, List.set_cons_succ]))
    (refine Lw.take1 (i := 11) (v := ?_) rfl (by kernel_rfl) (by kernel_rfl) (by kernel_rfl) (fun _ _ _ h => h) (Or.inl ⟨by rfl, ?_⟩) (by assumption) ?_; rotate_left 1; (focus (intro wS hSw; obtain ⟨hS1, hS2, hS3, hS4⟩ := hSw; go_simp <;> with_reducible rfl)); (try simp only [Act.put, List.setIfInBounds_toArray, List.set_cons_zero, List.set_cons_succ]))
    (refine Lw.take1 (i := 12) (v := ?_) rfl (by kernel_rfl) (by kernel_rfl) (by kernel_rfl) (fun _ _ _ h => h) (Or.inl ⟨by rfl, ?_⟩) (by assumption) ?_; rotate_left 1; (focus (intro wS hSw; obtain ⟨hS1, hS2, hS3, hS4⟩ := hSw; go_simp <;> with_reducible rfl)); (try simp only [Act.put, List.setIfInBounds_toArray, List.set_cons_zero, List.set_cons_succ]))
    (refine Lw.take1 (i := 13) (v := ?_) rfl (by kernel_rfl) (by kernel_rfl) (by kernel_rfl) (fun _ _ _ h => h) (Or.inl ⟨by rfl, ?_⟩) (by assumption) ?_; rotate_left 1; (focus (intro wS hSw; obtain ⟨hS1, hS2, hS3, hS4⟩ := hSw; go_simp <;> with_reducible rfl)); (try simp only [Act.put, List.setIfInBounds_toArray, List.set_cons_zero, List.set_cons_succ]))
    (refine Lw.take1 (i := 14) (v := ?_) rfl (by kernel_rfl) (by kernel_rfl) (by kernel_rfl) (fun _ _ _ h => h) (Or.inl ⟨by rfl, ?_⟩) (by assumption) ?_; rotate_left 1; (focus (intro wS hSw; obtain ⟨hS1, hS2, hS3, hS4⟩ := hSw; go_simp <;> with_reducible rfl)); (try simp only [Act.put, List.setIfInBounds_toArray, List.set_cons_zero, List.set_cons_succ]))
    (refine Lw.take1 (i := 15) (v := ?_) rfl (by kernel_rfl) (by kernel_rfl) (by kernel_rfl) (fun _ _ _ h => h) (Or.inl ⟨by rfl, ?_⟩) (by assumption) ?_; rotate_left 1; (focus (intro wS hSw; obtain ⟨hS1, hS2, hS3, hS4⟩ := hSw; go_simp <;> with_reducible rfl)); (try simp only [Act.put, List.setIfInBounds_toArray, List.set_cons_zero, List.set_cons_succ]))
    refine wpAnyH_done (by kernel_rfl) ?_ _
    have T4 : Lw.Tn b w w4 := T3.trans (Lw.Tn.of (show Below W3.heap.size W3 w4 from Lw.bt (Below.drew (Below.refl _ _)) hb4))
    have BH4 := Lib.hid ((hb4.block b hlt3).trans HB3.out)
    have R4 := Lib.hid R4
    clear hHeld s0 s2 HB3 RM3 T3
    go_wp2
    go_loopw [8, 10, 46] (fun l _ i wr => ∃ k : Nat, i = .int .i64 (k : Int) ∧ k ≤ n ∧ wr.ownsRow w4.heap.size 2 1 l k (Lw.intsV .i64 (Lw.shrL p x (Lw.takR rest 0 t) k)) ∧ Below w4.heap.size w4 wr) (fun _ _ i _ => n - (intOf i).toNat)
    case atStart => exact ⟨0, rfl, by omega, by rw [S0.out]; exact World.ownsRow_nil _ _ _ _, Below.refl _ _⟩
    case round =>
      obtain ⟨k, rfl, hk, own, hB⟩ := hrel
      have hszr := hB.size
      by_cases hlt : k < n
      · have hkl : k < (Lw.ptsL p (x :: Lw.takR rest 0 t) n).length := by rw [PL.out]; exact hlt
        have hlt' : (k : Int) < (n : Int) := by omega
        obtain ⟨g0, g1⟩ := Lw.pairsV_get (k := .i64) (l := .i64) hkl
        rw [PG.out k hkl] at g0 g1
        obtain ⟨ad, rfl, had, e0, e1⟩ := (R4.out.below (Nat.le_refl _) hB).at2 hlt g0 g1
        simp only at e0 e1
        have SN := SL.out k
        obtain ⟨y, hy⟩ : ∃ z, Lw.hornV p (x :: Lw.takR rest 0 t) ((k : Int) + 1) = z := ⟨_, rfl⟩
        rw [hy] at e1 SN
        have SN := Lib.hid SN
        have OWN := Lib.hid own
        clear own hy g0 g1 hkl had
        go_wp2_with (at_builtin; go_loud (refine Lw.wpList_app elLng rfl _ _ rfl rfl ((OWN.out.alloc _).alloc _) rfl (by first | exact Lw.Rd.nil _ _ _ | exact Lw.Rd.lit (Lw.blk_new' (by simp) _ _) rfl rfl | exact Lw.Rd.lit (Lw.blk_alloc (Lw.blk_new' (by simp) _ _) _) rfl rfl) (Lw.one1 _ _) (by omega) (Lw.balloc (Lw.balloc hB _) _) (Nat.le_refl _) (by simp; omega) ?_); intro v2 w2 own2 hb2 _ _)
        have O2 := Lib.hid own2
        clear own2
        go_wp2
        go_roundw
        case rel => exact ⟨k + 1, by go_num, by omega, by rw [SN.out, Lw.intsV_snoc'']; exact O2.out, hb2⟩
        case measure => simp [intOf]; omega
      · have hkn : k = n := by omega
        subst hkn
        obtain ⟨D, e, rfl, hg, _⟩ := Lw.ownsForm own
        have OWN := Lib.hid own
        clear own
        go_wp2
        go_ret
        have T5 : Lw.Tn b w wr := T4.trans (Lw.Tn.of hB)
        exact ⟨D, e, rfl, Lw.ownsBase OWN.out T4.size, ⟨V, rn - kk, rc - kk, (hB.block b (by have := T4.size; omega)).trans BH4.out, HV.out ▸ Lw.rd_cut (Lw.Rd.tn RR.out T5 (fun h0 ad e => Nat.ne_of_lt (HA.out ad e h0))) HK.out.symm hrc, by omega, fun ad e h0 => by
          have h1 := HV.out
          rw [if_neg (by omega), e] at h1
          cases RA with
          | none => cases h1
          | some a0 =>
            injection h1 with h1
            rw [← h1, Lw.add_block]
            exact HA.out a0 rfl (by omega)⟩, T5⟩

  · go_simp; refine hK.out _ _ ⟨trivial, trivial, trivial, trivial⟩ (fun hHeld => ?_); clear hK K; (try simp only [Act.put, List.setIfInBounds_toArray, List.set_cons_zero, List.set_cons_succ])
    refine wpAnyH_ready (rs := [4, 10]) (by kernel_rfl) (by simp) ?_
    refine Lw.cons1 (i := 4) rfl (fun K hK => ?_) (Lw.cons1 (i := 10) rfl (fun K hK => ?_) AllReadyH.nil)
    · go_simp; refine hK.out _ _ ⟨trivial, trivial, trivial, trivial⟩ (fun hHeld => ?_); clear hK K; (try simp only [Act.put, List.setIfInBounds_toArray, List.set_cons_zero, List.set_cons_succ])
      (refine wpAnyH_ready (rs := [10]) (by kernel_rfl) (by simp) ?_; refine Lw.cons1 (i := 10) rfl (fun K hK => ?_) AllReadyH.nil)
      (refine step_copy_splice rfl (.tmp 21) (.tmp 25) 23 23 rfl 2 Try.underlying23 (by kernel_rfl) (some ⟨w.heap.size, 0, none⟩) RA t t rn rc rfl rfl w.heap.size 0 (List.replicate t (.int .i64 0)) 2 (by exact G.out) cs CS1.out (fun hp => ⟨rfl, P1.out hp⟩) CS2.out CS3.out w.heap.size w hBW (Nat.le_refl _) ?_; intro w1 hg1 hb1; rw [CS4.out] at hg1; refine hK.out _ _ ⟨trivial, trivial, trivial, trivial⟩ (fun hHeld => ?_); clear hK K; (try simp only [Act.put, List.setIfInBounds_toArray, List.set_cons_zero, List.set_cons_succ]))
      rw [CS5.out]
      have BH1 := (hb1.block b hltb).trans HB.out
      have f3 := Lw.blk_free BH1 3
      have r3 := Lw.blk_cell BH1 3
      simp at r3

      (refine Lw.take1 (i := 11) (v := .slice V (rn - kk) (rc - kk)) rfl (by kernel_rfl) (by kernel_rfl) (by kernel_rfl) (fun _ _ _ h => h) (Or.inl ⟨by rfl, ?_⟩) (by assumption) ?_; (focus (intro wS hSw; obtain ⟨hS1, hS2, hS3, hS4⟩ := hSw; go_simp <;> simp [← HV.out, *])); (try simp only [Act.put, List.setIfInBounds_toArray, List.set_cons_zero, List.set_cons_succ]))
      (refine Lw.take1 (i := 12) (v := ?_) rfl (by kernel_rfl) (by kernel_rfl) (by kernel_rfl) (fun _ _ _ h => h) (Or.inl ⟨by rfl, ?_⟩) (by assumption) ?_; rotate_left 1; (focus (intro wS hSw; obtain ⟨hS1, hS2, hS3, hS4⟩ := hSw; go_simp <;> with_reducible rfl)); (try simp only [Act.put, List.setIfInBounds_toArray, List.set_cons_zero, List.set_cons_succ]))
      (refine Lw.take1 (i := 13) (v := ?_) rfl (by kernel_rfl) (by kernel_rfl) (by kernel_rfl) (fun _ _ _ h => h) (Or.inl ⟨by rfl, ?_⟩) (by assumption) ?_; rotate_left 1; (focus (intro wS hSw; obtain ⟨hS1, hS2, hS3, hS4⟩ := hSw; go_simp <;> with_reducible rfl)); (try simp only [Act.put, List.setIfInBounds_toArray, List.set_cons_zero, List.set_cons_succ]))
      (refine wpAnyH_ready (rs := [14]) (by kernel_rfl) (by simp) ?_; refine Lw.cons1 (i := 14) rfl (fun K hK => ?_) AllReadyH.nil; go_simp; refine hK.out _ _ ?_ (fun hHeld => ?_); (focus exact ⟨trivial, trivial, trivial, trivial⟩); clear hK K; (try simp only [Act.put, List.setIfInBounds_toArray, List.set_cons_zero, List.set_cons_succ]))
      refine wpAnyH_done (by kernel_rfl) ?_ _
      go_wp2
      refine Lw.at_world (fun W3 hW3 => ?_)
      have T3 : Lw.Tn b w W3 := by rw [hW3.out]; exact (Lw.Tn.of hb1).set 3 _
      have BH3 : W3.heap[b]? = some (.cells #[.int .i64 p, .int .i64 t, .int .i64 n, .slice V (rn - kk) (rc - kk)] 44 (0, 0)) := by rw [hW3.out]; exact Lw.settwo4 BH1
      have HG3 : W3.heap[w.heap.size]? = some (.cells (Lw.intsV .i64 (Lw.takR rest 0 t)).toArray 2 (0, 0)) := by rw [hW3.out]; exact (Below.heap_setCell _ _ _ _ (show w.heap.size ≠ b by omega)).trans hg1.out
      have RM3 : Lw.Rd W3 1 (some ⟨w.heap.size, 0, none⟩) t (Lw.intsV .i64 (Lw.takR rest 0 t)) := Lw.Rd.lit HG3 rfl (by simp [Lw.intsV, Lw.takR])
      have s0 := Lw.blk_cell BH3 0; have s2 := Lw.blk_cell BH3 2
      simp at s0 s2
      have hlt3 := Lw.blk_lt BH3
      have HB3 := Lib.hid BH3
      have RM3 := Lib.hid RM3
      clear BH1 f3 r3 BH3 HG3 hg1 hb1 hHeld
      refine wp_region_held_drew (S := fun w' => w'.cell? ⟨b, 0, none⟩ = some (.int .i64 p) ∧ w'.cell? ⟨b, 2, none⟩ = some (.int .i64 (n : Int)) ∧ True ∧ True) (by kernel_rfl) (by exact ⟨s0, s2, trivial, trivial⟩) (fun hHeld => ?_)
      (refine Lw.take1 (i := 0) (v := ?_) rfl (by kernel_rfl) (by kernel_rfl) (by kernel_rfl) (fun _ _ _ h => h) (Or.inl ⟨by rfl, ?_⟩) (by assumption) ?_; rotate_left 1; (focus (intro wS hSw; obtain ⟨hS1, hS2, hS3, hS4⟩ := hSw; go_simp <;> with_reducible rfl)); (try simp only [Act.put, List.setIfInBounds_toArray, List.set_cons_zero, List.set_cons_succ]))
      (refine Lw.take1 (i := 1) (v := ?_) rfl (by kernel_rfl) (by kernel_rfl) (by kernel_rfl) (fun _ _ _ h => h) (Or.inl ⟨by rfl, ?_⟩) (by assumption) ?_; rotate_left 1; (focus (intro wS hSw; obtain ⟨hS1, hS2, hS3, hS4⟩ := hSw; go_simp <;> with_reducible rfl)); (try simp only [Act.put, List.setIfInBounds_toArray, List.set_cons_zero, List.set_cons_succ]))
      (refine Lw.take1 (i := 2) (v := ?_) rfl (by kernel_rfl) (by kernel_rfl) (by kernel_rfl) (fun _ _ _ h => h) (Or.inl ⟨by rfl, ?_⟩) (by assumption) ?_; rotate_left 1; (focus (intro wS hSw; obtain ⟨hS1, hS2, hS3, hS4⟩ := hSw; go_simp <;> with_reducible rfl)); (try simp only [Act.put, List.setIfInBounds_toArray, List.set_cons_zero, List.set_cons_succ]))
      (refine Lw.take1 (i := 3) (v := ?_) rfl (by kernel_rfl) (by kernel_rfl) (by kernel_rfl) (fun _ _ _ h => h) (Or.inl ⟨by rfl, ?_⟩) (by assumption) ?_; rotate_left 1; (focus (intro wS hSw; obtain ⟨hS1, hS2, hS3, hS4⟩ := hSw; go_simp <;> with_reducible rfl)); (try simp only [Act.put, List.setIfInBounds_toArray, List.set_cons_zero, List.set_cons_succ]))
      (refine Lw.take1 (i := 4) (v := ?_) rfl (by kernel_rfl) (by kernel_rfl) (by kernel_rfl) (fun _ _ _ h => h) (Or.inl ⟨by rfl, ?_⟩) (by assumption) ?_; rotate_left 1; (focus (intro wS hSw; obtain ⟨hS1, hS2, hS3, hS4⟩ := hSw; go_simp <;> with_reducible rfl)); (try simp only [Act.put, List.setIfInBounds_toArray, List.set_cons_zero, List.set_cons_succ]))
      (refine Lw.take1 (i := 5) (v := ?_) rfl (by kernel_rfl) (by kernel_rfl) (by kernel_rfl) (fun _ _ _ h => h) (Or.inl ⟨by rfl, ?_⟩) (by assumption) ?_; rotate_left 1; (focus (intro wS hSw; obtain ⟨hS1, hS2, hS3, hS4⟩ := hSw; go_simp <;> with_reducible rfl)); (try simp only [Act.put, List.setIfInBounds_toArray, List.set_cons_zero, List.set_cons_succ]))
      (refine Lw.take1 (i := 6) (v := ?_) rfl (by kernel_rfl) (by kernel_rfl) (by kernel_rfl) (fun _ _ _ h => h) (Or.inl ⟨by rfl, ?_⟩) (by assumption) ?_; rotate_left 1; (focus (intro wS hSw; obtain ⟨hS1, hS2, hS3, hS4⟩ := hSw; go_simp <;> with_reducible rfl)); (try simp only [Act.put, List.setIfInBounds_toArray, List.set_cons_zero, List.set_cons_succ]))
      (refine Lw.take1 (i := 7) (v := ?_) rfl (by kernel_rfl) (by kernel_rfl) (by kernel_rfl) (fun _ _ _ h => h) (Or.inl ⟨by rfl, ?_⟩) (by assumption) ?_; rotate_left 1; (focus (intro wS hSw; obtain ⟨hS1, hS2, hS3, hS4⟩ := hSw; go_simp <;> with_reducible rfl)); (try simp only [Act.put, List.setIfInBounds_toArray, List.set_cons_zero, List.set_cons_succ]))
      (refine Lw.take1 (i := 8) (v := ?_) rfl (by kernel_rfl) (by kernel_rfl) (by kernel_rfl) (fun _ _ _ h => h) (Or.inl ⟨by rfl, ?_⟩) (by assumption) ?_; rotate_left 1; (focus (intro wS hSw; obtain ⟨hS1, hS2, hS3, hS4⟩ := hSw; go_simp <;> with_reducible rfl)); (try simp only [Act.put, List.setIfInBounds_toArray, List.set_cons_zero, List.set_cons_succ]))
      (refine Lw.take1 (i := 9) (v := ?_) rfl (by kernel_rfl) (by kernel_rfl) (by kernel_rfl) (fun _ _ _ h => h) (Or.inl ⟨by rfl, ?_⟩) (by assumption) ?_; rotate_left 1; (focus (intro wS hSw; obtain ⟨hS1, hS2, hS3, hS4⟩ := hSw; go_simp <;> with_reducible rfl)); (try simp only [Act.put, List.setIfInBounds_toArray, List.set_cons_zero, List.set_cons_succ]))
      (refine wpAnyH_ready (rs := [10]) (by kernel_rfl) (by simp) ?_; refine Lw.cons1 (i := 10) rfl (fun K hK => ?_) AllReadyH.nil; go_simp; go_at_call 41; (with_reducible refine (SP.out _ RM3.out.drew).mono ?_); rintro e w4 ⟨C4, d4, rfl, R4, hb4⟩; refine hK.out _ _ ?_ (fun hHeld => ?_); (focus exact ⟨(hb4.cell (p := ⟨b, 0, none⟩) hlt3).trans s0, (hb4.cell (p := ⟨b, 2, none⟩) hlt3).trans s2, trivial, trivial⟩); clear hK K; (try simp only [Act.put, List.setIfInBounds_toArray, List.set_cons_zero, List.set_cons_succ]))
      (refine Lw.take1 (i := 11) (v := ?_) rfl (by kernel_rfl) (by kernel_rfl) (by kernel_rfl) (fun _ _ _ h => h) (Or.inl ⟨by rfl, ?_⟩) (by assumption) ?_; rotate_left 1; (focus (intro wS hSw; obtain ⟨hS1, hS2, hS3, hS4⟩ := hSw; go_simp <;> with_reducible rfl)); (try simp only [Act.put, List.setIfInBounds_toArray, List.set_cons_zero, List.set_cons_succ]))
      (refine Lw.take1 (i := 12) (v := ?_) rfl (by kernel_rfl) (by kernel_rfl) (by kernel_rfl) (fun _ _ _ h => h) (Or.inl ⟨by rfl, ?_⟩) (by assumption) ?_; rotate_left 1; (focus (intro wS hSw; obtain ⟨hS1, hS2, hS3, hS4⟩ := hSw; go_simp <;> with_reducible rfl)); (try simp only [Act.put, List.setIfInBounds_toArray, List.set_cons_zero, List.set_cons_succ]))
      (refine Lw.take1 (i := 13) (v := ?_) rfl (by kernel_rfl) (by kernel_rfl) (by kernel_rfl) (fun _ _ _ h => h) (Or.inl ⟨by rfl, ?_⟩) (by assumption) ?_; rotate_left 1; (focus (intro wS hSw; obtain ⟨hS1, hS2, hS3, hS4⟩ := hSw; go_simp <;> with_reducible rfl)); (try simp only [Act.put, List.setIfInBounds_toArray, List.set_cons_zero, List.set_cons_succ]))
      (refine Lw.take1 (i := 14) (v := ?_) rfl (by kernel_rfl) (by kernel_rfl) (by kernel_rfl) (fun _ _ _ h => h) (Or.inl ⟨by rfl, ?_⟩) (by assumption) ?_; rotate_left 1; (focus (intro wS hSw; obtain ⟨hS1, hS2, hS3, hS4⟩ := hSw; go_simp <;> with_reducible rfl)); (try simp only [Act.put, List.setIfInBounds_toArray, List.set_cons_zero, List.set_cons_succ]))
      (refine Lw.take1 (i := 15) (v := ?_) rfl (by kernel_rfl) (by kernel_rfl) (by kernel_rfl) (fun _ _ _ h => h) (Or.inl ⟨by rfl, ?_⟩) (by assumption) ?_; rotate_left 1; (focus (intro wS hSw; obtain ⟨hS1, hS2, hS3, hS4⟩ := hSw; go_simp <;> with_reducible rfl)); (try simp only [Act.put, List.setIfInBounds_toArray, List.set_cons_zero, List.set_cons_succ]))
      refine wpAnyH_done (by kernel_rfl) ?_ _
      have T4 : Lw.Tn b w w4 := T3.trans (Lw.Tn.of (show Below W3.heap.size W3 w4 from Lw.bt (Below.drew (Below.refl _ _)) hb4))
      have BH4 := Lib.hid ((hb4.block b hlt3).trans HB3.out)
      have R4 := Lib.hid R4
      clear hHeld s0 s2 HB3 RM3 T3
      go_wp2
      go_loopw [8, 10, 46] (fun l _ i wr => ∃ k : Nat, i = .int .i64 (k : Int) ∧ k ≤ n ∧ wr.ownsRow w4.heap.size 2 1 l k (Lw.intsV .i64 (Lw.shrL p x (Lw.takR rest 0 t) k)) ∧ Below w4.heap.size w4 wr) (fun _ _ i _ => n - (intOf i).toNat)
      case atStart => exact ⟨0, rfl, by omega, by rw [S0.out]; exact World.ownsRow_nil _ _ _ _, Below.refl _ _⟩
      case round =>
        obtain ⟨k, rfl, hk, own, hB⟩ := hrel
        have hszr := hB.size
        by_cases hlt : k < n
        · have hkl : k < (Lw.ptsL p (x :: Lw.takR rest 0 t) n).length := by rw [PL.out]; exact hlt
          have hlt' : (k : Int) < (n : Int) := by omega
          obtain ⟨g0, g1⟩ := Lw.pairsV_get (k := .i64) (l := .i64) hkl
          rw [PG.out k hkl] at g0 g1
          obtain ⟨ad, rfl, had, e0, e1⟩ := (R4.out.below (Nat.le_refl _) hB).at2 hlt g0 g1
          simp only at e0 e1
          have SN := SL.out k
          obtain ⟨y, hy⟩ : ∃ z, Lw.hornV p (x :: Lw.takR rest 0 t) ((k : Int) + 1) = z := ⟨_, rfl⟩
          rw [hy] at e1 SN
          have SN := Lib.hid SN
          have OWN := Lib.hid own
          clear own hy g0 g1 hkl had
          go_wp2_with (at_builtin; go_loud (refine Lw.wpList_app elLng rfl _ _ rfl rfl ((OWN.out.alloc _).alloc _) rfl (by first | exact Lw.Rd.nil _ _ _ | exact Lw.Rd.lit (Lw.blk_new' (by simp) _ _) rfl rfl | exact Lw.Rd.lit (Lw.blk_alloc (Lw.blk_new' (by simp) _ _) _) rfl rfl) (Lw.one1 _ _) (by omega) (Lw.balloc (Lw.balloc hB _) _) (Nat.le_refl _) (by simp; omega) ?_); intro v2 w2 own2 hb2 _ _)
          have O2 := Lib.hid own2
          clear own2
          go_wp2
          go_roundw
          case rel => exact ⟨k + 1, by go_num, by omega, by rw [SN.out, Lw.intsV_snoc'']; exact O2.out, hb2⟩
          case measure => simp [intOf]; omega
        · have hkn : k = n := by omega
          subst hkn
          obtain ⟨D, e, rfl, hg, _⟩ := Lw.ownsForm own
          have OWN := Lib.hid own
          clear own
          go_wp2
          go_ret
          have T5 : Lw.Tn b w wr := T4.trans (Lw.Tn.of hB)
          exact ⟨D, e, rfl, Lw.ownsBase OWN.out T4.size, ⟨V, rn - kk, rc - kk, (hB.block b (by have := T4.size; omega)).trans BH4.out, HV.out ▸ Lw.rd_cut (Lw.Rd.tn RR.out T5 (fun h0 ad e => Nat.ne_of_lt (HA.out ad e h0))) HK.out.symm hrc, by omega, fun ad e h0 => by
            have h1 := HV.out
            rw [if_neg (by omega), e] at h1
            cases RA with
            | none => cases h1
            | some a0 =>
              injection h1 with h1
              rw [← h1, Lw.add_block]
              exact HA.out a0 rfl (by omega)⟩, T5⟩

    · skip
      (refine step_copy_splice rfl (.tmp 21) (.tmp 25) 23 23 rfl 2 Try.underlying23 (by kernel_rfl) (some ⟨w.heap.size, 0, none⟩) RA t t rn rc rfl rfl w.heap.size 0 (List.replicate t (.int .i64 0)) 2 (by exact G.out) cs CS1.out (fun hp => ⟨rfl, P1.out hp⟩) CS2.out CS3.out w.heap.size w hBW (Nat.le_refl _) ?_; intro w1 hg1 hb1; rw [CS4.out] at hg1; refine hK.out _ _ ⟨trivial, trivial, trivial, trivial⟩ (fun hHeld => ?_); clear hK K; (try simp only [Act.put, List.setIfInBounds_toArray, List.set_cons_zero, List.set_cons_succ]))
      rw [CS5.out]
      have BH1 := (hb1.block b hltb).trans HB.out
      have f3 := Lw.blk_free BH1 3
      have r3 := Lw.blk_cell BH1 3
      simp at r3

      (refine wpAnyH_ready (rs := [4]) (by kernel_rfl) (by simp) ?_; refine Lw.cons1 (i := 4) rfl (fun K hK => ?_) AllReadyH.nil; go_simp; refine hK.out _ _ ?_ (fun hHeld => ?_); (focus exact ⟨trivial, trivial, trivial, trivial⟩); clear hK K; (try simp only [Act.put, List.setIfInBounds_toArray, List.set_cons_zero, List.set_cons_succ]))
      (refine Lw.take1 (i := 11) (v := .slice V (rn - kk) (rc - kk)) rfl (by kernel_rfl) (by kernel_rfl) (by kernel_rfl) (fun _ _ _ h => h) (Or.inl ⟨by rfl, ?_⟩) (by assumption) ?_; (focus (intro wS hSw; obtain ⟨hS1, hS2, hS3, hS4⟩ := hSw; go_simp <;> simp [← HV.out, *])); (try simp only [Act.put, List.setIfInBounds_toArray, List.set_cons_zero, List.set_cons_succ]))
      (refine Lw.take1 (i := 12) (v := ?_) rfl (by kernel_rfl) (by kernel_rfl) (by kernel_rfl) (fun _ _ _ h => h) (Or.inl ⟨by rfl, ?_⟩) (by assumption) ?_; rotate_left 1; (focus (intro wS hSw; obtain ⟨hS1, hS2, hS3, hS4⟩ := hSw; go_simp <;> with_reducible rfl)); (try simp only [Act.put, List.setIfInBounds_toArray, List.set_cons_zero, List.set_cons_succ]))
      (refine Lw.take1 (i := 13) (v := ?_) rfl (by kernel_rfl) (by kernel_rfl) (by kernel_rfl) (fun _ _ _ h => h) (Or.inl ⟨by rfl, ?_⟩) (by assumption) ?_; rotate_left 1; (focus (intro wS hSw; obtain ⟨hS1, hS2, hS3, hS4⟩ := hSw; go_simp <;> with_reducible rfl)); (try simp only [Act.put, List.setIfInBounds_toArray, List.set_cons_zero, List.set_cons_succ]))
      (refine wpAnyH_ready (rs := [14]) (by kernel_rfl) (by simp) ?_; refine Lw.cons1 (i := 14) rfl (fun K hK => ?_) AllReadyH.nil; go_simp; refine hK.out _ _ ?_ (fun hHeld => ?_); (focus exact ⟨trivial, trivial, trivial, trivial⟩); clear hK K; (try simp only [Act.put, List.setIfInBounds_toArray, List.set_cons_zero, List.set_cons_succ]))
      refine wpAnyH_done (by kernel_rfl) ?_ _
      go_wp2
      refine Lw.at_world (fun W3 hW3 => ?_)
      have T3 : Lw.Tn b w W3 := by rw [hW3.out]; exact (Lw.Tn.of hb1).set 3 _
      have BH3 : W3.heap[b]? = some (.cells #[.int .i64 p, .int .i64 t, .int .i64 n, .slice V (rn - kk) (rc - kk)] 44 (0, 0)) := by rw [hW3.out]; exact Lw.settwo4 BH1
      have HG3 : W3.heap[w.heap.size]? = some (.cells (Lw.intsV .i64 (Lw.takR rest 0 t)).toArray 2 (0, 0)) := by rw [hW3.out]; exact (Below.heap_setCell _ _ _ _ (show w.heap.size ≠ b by omega)).trans hg1.out
      have RM3 : Lw.Rd W3 1 (some ⟨w.heap.size, 0, none⟩) t (Lw.intsV .i64 (Lw.takR rest 0 t)) := Lw.Rd.lit HG3 rfl (by simp [Lw.intsV, Lw.takR])
      have s0 := Lw.blk_cell BH3 0; have s2 := Lw.blk_cell BH3 2
      simp at s0 s2
      have hlt3 := Lw.blk_lt BH3
      have HB3 := Lib.hid BH3
      have RM3 := Lib.hid RM3
      clear BH1 f3 r3 BH3 HG3 hg1 hb1 hHeld
      refine wp_region_held_drew (S := fun w' => w'.cell? ⟨b, 0, none⟩ = some (.int .i64 p) ∧ w'.cell? ⟨b, 2, none⟩ = some (.int .i64 (n : Int)) ∧ True ∧ True) (by kernel_rfl) (by exact ⟨s0, s2, trivial, trivial⟩) (fun hHeld => ?_)
      (refine Lw.take1 (i := 0) (v := ?_) rfl (by kernel_rfl) (by kernel_rfl) (by kernel_rfl) (fun _ _ _ h => h) (Or.inl ⟨by rfl, ?_⟩) (by assumption) ?_; rotate_left 1; (focus (intro wS hSw; obtain ⟨hS1, hS2, hS3, hS4⟩ := hSw; go_simp <;> with_reducible rfl)); (try simp only [Act.put, List.setIfInBounds_toArray, List.set_cons_zero, List.set_cons_succ]))
      (refine Lw.take1 (i := 1) (v := ?_) rfl (by kernel_rfl) (by kernel_rfl) (by kernel_rfl) (fun _ _ _ h => h) (Or.inl ⟨by rfl, ?_⟩) (by assumption) ?_; rotate_left 1; (focus (intro wS hSw; obtain ⟨hS1, hS2, hS3, hS4⟩ := hSw; go_simp <;> with_reducible rfl)); (try simp only [Act.put, List.setIfInBounds_toArray, List.set_cons_zero, List.set_cons_succ]))
      (refine Lw.take1 (i := 2) (v := ?_) rfl (by kernel_rfl) (by kernel_rfl) (by kernel_rfl) (fun _ _ _ h => h) (Or.inl ⟨by rfl, ?_⟩) (by assumption) ?_; rotate_left 1; (focus (intro wS hSw; obtain ⟨hS1, hS2, hS3, hS4⟩ := hSw; go_simp <;> with_reducible rfl)); (try simp only [Act.put, List.setIfInBounds_toArray, List.set_cons_zero, List.set_cons_succ]))
      (refine Lw.take1 (i := 3) (v := ?_) rfl (by kernel_rfl) (by kernel_rfl) (by kernel_rfl) (fun _ _ _ h => h) (Or.inl ⟨by rfl, ?_⟩) (by assumption) ?_; rotate_left 1; (focus (intro wS hSw; obtain ⟨hS1, hS2, hS3, hS4⟩ := hSw; go_simp <;> with_reducible rfl)); (try simp only [Act.put, List.setIfInBounds_toArray, List.set_cons_zero, List.set_cons_succ]))
      (refine Lw.take1 (i := 4) (v := ?_) rfl (by kernel_rfl) (by kernel_rfl) (by kernel_rfl) (fun _ _ _ h => h) (Or.inl ⟨by rfl, ?_⟩) (by assumption) ?_; rotate_left 1; (focus (intro wS hSw; obtain ⟨hS1, hS2, hS3, hS4⟩ := hSw; go_simp <;> with_reducible rfl)); (try simp only [Act.put, List.setIfInBounds_toArray, List.set_cons_zero, List.set_cons_succ]))
      (refine Lw.take1 (i := 5) (v := ?_) rfl (by kernel_rfl) (by kernel_rfl) (by kernel_rfl) (fun _ _ _ h => h) (Or.inl ⟨by rfl, ?_⟩) (by assumption) ?_; rotate_left 1; (focus (intro wS hSw; obtain ⟨hS1, hS2, hS3, hS4⟩ := hSw; go_simp <;> with_reducible rfl)); (try simp only [Act.put, List.setIfInBounds_toArray, List.set_cons_zero, List.set_cons_succ]))
      (refine Lw.take1 (i := 6) (v := ?_) rfl (by kernel_rfl) (by kernel_rfl) (by kernel_rfl) (fun _ _ _ h => h) (Or.inl ⟨by rfl, ?_⟩) (by assumption) ?_; rotate_left 1; (focus (intro wS hSw; obtain ⟨hS1, hS2, hS3, hS4⟩ := hSw; go_simp <;> with_reducible rfl)); (try simp only [Act.put, List.setIfInBounds_toArray, List.set_cons_zero, List.set_cons_succ]))
      (refine Lw.take1 (i := 7) (v := ?_) rfl (by kernel_rfl) (by kernel_rfl) (by kernel_rfl) (fun _ _ _ h => h) (Or.inl ⟨by rfl, ?_⟩) (by assumption) ?_; rotate_left 1; (focus (intro wS hSw; obtain ⟨hS1, hS2, hS3, hS4⟩ := hSw; go_simp <;> with_reducible rfl)); (try simp only [Act.put, List.setIfInBounds_toArray, List.set_cons_zero, List.set_cons_succ]))
      (refine Lw.take1 (i := 8) (v := ?_) rfl (by kernel_rfl) (by kernel_rfl) (by kernel_rfl) (fun _ _ _ h => h) (Or.inl ⟨by rfl, ?_⟩) (by assumption) ?_; rotate_left 1; (focus (intro wS hSw; obtain ⟨hS1, hS2, hS3, hS4⟩ := hSw; go_simp <;> with_reducible rfl)); (try simp only [Act.put, List.setIfInBounds_toArray, List.set_cons_zero, List.set_cons_succ]))
      (refine Lw.take1 (i := 9) (v := ?_) rfl (by kernel_rfl) (by kernel_rfl) (by kernel_rfl) (fun _ _ _ h => h) (Or.inl ⟨by rfl, ?_⟩) (by assumption) ?_; rotate_left 1; (focus (intro wS hSw; obtain ⟨hS1, hS2, hS3, hS4⟩ := hSw; go_simp <;> with_reducible rfl)); (try simp only [Act.put, List.setIfInBounds_toArray, List.set_cons_zero, List.set_cons_succ]))
      (refine wpAnyH_ready (rs := [10]) (by kernel_rfl) (by simp) ?_; refine Lw.cons1 (i := 10) rfl (fun K hK => ?_) AllReadyH.nil; go_simp; go_at_call 41; (with_reducible refine (SP.out _ RM3.out.drew).mono ?_); rintro e w4 ⟨C4, d4, rfl, R4, hb4⟩; refine hK.out _ _ ?_ (fun hHeld => ?_); (focus exact ⟨(hb4.cell (p := ⟨b, 0, none⟩) hlt3).trans s0, (hb4.cell (p := ⟨b, 2, none⟩) hlt3).trans s2, trivial, trivial⟩); clear hK K; (try simp only [Act.put, List.setIfInBounds_toArray, List.set_cons_zero, List.set_cons_succ]))
      (refine Lw.take1 (i := 11) (v := ?_) rfl (by kernel_rfl) (by kernel_rfl) (by kernel_rfl) (fun _ _ _ h => h) (Or.inl ⟨by rfl, ?_⟩) (by assumption) ?_; rotate_left 1; (focus (intro wS hSw; obtain ⟨hS1, hS2, hS3, hS4⟩ := hSw; go_simp <;> with_reducible rfl)); (try simp only [Act.put, List.setIfInBounds_toArray, List.set_cons_zero, List.set_cons_succ]))
      (refine Lw.take1 (i := 12) (v := ?_) rfl (by kernel_rfl) (by kernel_rfl) (by kernel_rfl) (fun _ _ _ h => h) (Or.inl ⟨by rfl, ?_⟩) (by assumption) ?_; rotate_left 1; (focus (intro wS hSw; obtain ⟨hS1, hS2, hS3, hS4⟩ := hSw; go_simp <;> with_reducible rfl)); (try simp only [Act.put, List.setIfInBounds_toArray, List.set_cons_zero, List.set_cons_succ]))
      (refine Lw.take1 (i := 13) (v := ?_) rfl (by kernel_rfl) (by kernel_rfl) (by kernel_rfl) (fun _ _ _ h => h) (Or.inl ⟨by rfl, ?_⟩) (by assumption) ?_; rotate_left 1; (focus (intro wS hSw; obtain ⟨hS1, hS2, hS3, hS4⟩ := hSw; go_simp <;> with_reducible rfl)); (try simp only [Act.put, List.setIfInBounds_toArray, List.set_cons_zero, List.set_cons_succ]))
      (refine Lw.take1 (i := 14) (v := ?_) rfl (by kernel_rfl) (by kernel_rfl) (by kernel_rfl) (fun _ _ _ h => h) (Or.inl ⟨by rfl, ?_⟩) (by assumption) ?_; rotate_left 1; (focus (intro wS hSw; obtain ⟨hS1, hS2, hS3, hS4⟩ := hSw; go_simp <;> with_reducible rfl)); (try simp only [Act.put, List.setIfInBounds_toArray, List.set_cons_zero, List.set_cons_succ]))
      (refine Lw.take1 (i := 15) (v := ?_) rfl (by kernel_rfl) (by kernel_rfl) (by kernel_rfl) (fun _ _ _ h => h) (Or.inl ⟨by rfl, ?_⟩) (by assumption) ?_; rotate_left 1; (focus (intro wS hSw; obtain ⟨hS1, hS2, hS3, hS4⟩ := hSw; go_simp <;> with_reducible rfl)); (try simp only [Act.put, List.setIfInBounds_toArray, List.set_cons_zero, List.set_cons_succ]))
      refine wpAnyH_done (by kernel_rfl) ?_ _
      have T4 : Lw.Tn b w w4 := T3.trans (Lw.Tn.of (show Below W3.heap.size W3 w4 from Lw.bt (Below.drew (Below.refl _ _)) hb4))
      have BH4 := Lib.hid ((hb4.block b hlt3).trans HB3.out)
      have R4 := Lib.hid R4
      clear hHeld s0 s2 HB3 RM3 T3
      go_wp2
      go_loopw [8, 10, 46] (fun l _ i wr => ∃ k : Nat, i = .int .i64 (k : Int) ∧ k ≤ n ∧ wr.ownsRow w4.heap.size 2 1 l k (Lw.intsV .i64 (Lw.shrL p x (Lw.takR rest 0 t) k)) ∧ Below w4.heap.size w4 wr) (fun _ _ i _ => n - (intOf i).toNat)
      case atStart => exact ⟨0, rfl, by omega, by rw [S0.out]; exact World.ownsRow_nil _ _ _ _, Below.refl _ _⟩
      case round =>
        obtain ⟨k, rfl, hk, own, hB⟩ := hrel
        have hszr := hB.size
        by_cases hlt : k < n
        · have hkl : k < (Lw.ptsL p (x :: Lw.takR rest 0 t) n).length := by rw [PL.out]; exact hlt
          have hlt' : (k : Int) < (n : Int) := by omega
          obtain ⟨g0, g1⟩ := Lw.pairsV_get (k := .i64) (l := .i64) hkl
          rw [PG.out k hkl] at g0 g1
          obtain ⟨ad, rfl, had, e0, e1⟩ := (R4.out.below (Nat.le_refl _) hB).at2 hlt g0 g1
          simp only at e0 e1
          have SN := SL.out k
          obtain ⟨y, hy⟩ : ∃ z, Lw.hornV p (x :: Lw.takR rest 0 t) ((k : Int) + 1) = z := ⟨_, rfl⟩
          rw [hy] at e1 SN
          have SN := Lib.hid SN
          have OWN := Lib.hid own
          clear own hy g0 g1 hkl had
          go_wp2_with (at_builtin; go_loud (refine Lw.wpList_app elLng rfl _ _ rfl rfl ((OWN.out.alloc _).alloc _) rfl (by first | exact Lw.Rd.nil _ _ _ | exact Lw.Rd.lit (Lw.blk_new' (by simp) _ _) rfl rfl | exact Lw.Rd.lit (Lw.blk_alloc (Lw.blk_new' (by simp) _ _) _) rfl rfl) (Lw.one1 _ _) (by omega) (Lw.balloc (Lw.balloc hB _) _) (Nat.le_refl _) (by simp; omega) ?_); intro v2 w2 own2 hb2 _ _)
          have O2 := Lib.hid own2
          clear own2
          go_wp2
          go_roundw
          case rel => exact ⟨k + 1, by go_num, by omega, by rw [SN.out, Lw.intsV_snoc'']; exact O2.out, hb2⟩
          case measure => simp [intOf]; omega
        · have hkn : k = n := by omega
          subst hkn
          obtain ⟨D, e, rfl, hg, _⟩ := Lw.ownsForm own
          have OWN := Lib.hid own
          clear own
          go_wp2
          go_ret
          have T5 : Lw.Tn b w wr := T4.trans (Lw.Tn.of hB)
          exact ⟨D, e, rfl, Lw.ownsBase OWN.out T4.size, ⟨V, rn - kk, rc - kk, (hB.block b (by have := T4.size; omega)).trans BH4.out, HV.out ▸ Lw.rd_cut (Lw.Rd.tn RR.out T5 (fun h0 ad e => Nat.ne_of_lt (HA.out ad e h0))) HK.out.symm hrc, by omega, fun ad e h0 => by
            have h1 := HV.out
            rw [if_neg (by omega), e] at h1
            cases RA with
            | none => cases h1
            | some a0 =>
              injection h1 with h1
              rw [← h1, Lw.add_block]
              exact HA.out a0 rfl (by omega)⟩, T5⟩

end Go.Proofs.Ytfocpbknckmmaaa
