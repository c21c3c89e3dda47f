/- field.Mul, the reference's FieldMul. -/
import Derived.Test.YtjhjppaabmbbbaaFdc
namespace Lw
open Go Go.RowKit
theorem least_nat {P : Nat → Prop} : ∀ n, P n → ∃ m, P m ∧ ∀ i, i < m → ¬ P i := by
  intro n
  induction n using Nat.strongRecOn with
  | ind n ih =>
    intro h
    by_cases hx : ∃ i, i < n ∧ P i
    · obtain ⟨i, h1, h2⟩ := hx
      exact ih i h1 h2
    · exact ⟨n, h, fun i hi hp => hx ⟨i, hi, hp⟩⟩
theorem ov_short {p : Int} {a b : List Int} (p1 : 2 ≤ p) (p2 : p ≤ 251) (pp : primeB p = true) (ha : ∀ x ∈ a, 0 ≤ x ∧ x < p) (hb : goodL p b) (hm : 0 < b.length) :
    ∃ j, (ovN p a b (invR (b.getD (b.length - 1) 0) p) j).2.length < b.length ∧ ∀ i, i < j → b.length ≤ (ovN p a b (invR (b.getD (b.length - 1) 0) p) i).2.length := by
  have i4 := inv_top p1 p2 pp hb.1 (endZ_top hb.2.1 hm)
  generalize invR (b.getD (b.length - 1) 0) p = li at *
  by_cases h : ∃ j, (ovN p a b li j).2.length < b.length
  · obtain ⟨j, hj⟩ := h
    obtain ⟨m, h1, h2⟩ := least_nat (P := fun j => (ovN p a b li j).2.length < b.length) j hj
    exact ⟨m, h1, fun i hi => by have := h2 i hi; omega⟩
  · exfalso
    have h1 : ∀ j, b.length ≤ (ovN p a b li j).2.length := fun j => by
      rcases Nat.lt_or_ge (ovN p a b li j).2.length b.length with h2 | h2
      · exact absurd ⟨j, h2⟩ h
      · exact h2
    have h2 : ∀ j, (ovN p a b li j).2.length + j ≤ a.length := by
      intro j
      induction j with
      | zero => exact Nat.le_refl _
      | succ j ih =>
        have h3 := over_less (r := (ovN p a b li j).2) p1 hm (h1 j) i4 (ovN_bd (by omega) ha j).2
        show (plusL p (ovN p a b li j).2 b (-topK p li (ovN p a b li j).2) ((ovN p a b li j).2.length - b.length)).length + (j + 1) ≤ _
        omega
    have := h2 (a.length + 1)
    omega
theorem rem_len {p : Int} {a b : List Int} (p1 : 2 ≤ p) (p2 : p ≤ 251) (pp : primeB p = true) (ha : ∀ x ∈ a, 0 ≤ x ∧ x < p) (hat : trimL a = a) (hb : goodL p b) (hm : 0 < b.length) : (remL p a b).length < b.length := by
  obtain ⟨j, h1, h2⟩ := ov_short p1 p2 pp ha hb hm
  have := left_end (inv_top p1 p2 pp hb.1 (endZ_top hb.2.1 hm)) p1 ha hat hm h1 h2
  show (trimL _).length < _
  rw [this]; exact h1
/-- a product of elements, as a list -/
def prodL (p : Int) (f : List Int) (a b : Int) : List Int := remL p (timesK p (digs p a) (digs p b) (digs p a).length) f
def mulF (p : Int) (f : List Int) (a b : Int) : Int := numL p (prodL p f a b)
theorem prod_bd {p : Int} {f : List Int} {a b : Int} (p1 : 2 ≤ p) : ∀ x ∈ prodL p f a b, 0 ≤ x ∧ x < p := fun x hx => leftN_mem (by omega) (timesK_bd (by omega) _) _ x (trim_mem hx)
theorem prod_len {p : Int} {f : List Int} {a b : Int} (p1 : 2 ≤ p) (p2 : p ≤ 251) (pp : primeB p = true) (hf : goodL p f) (hm : 0 < f.length) : (prodL p f a b).length < f.length :=
  rem_len p1 p2 pp (timesK_bd (by omega) _) (timesK_trim _) hf hm
theorem mulF_bd {p : Int} {f : List Int} {a b : Int} (p1 : 2 ≤ p) (p2 : p ≤ 251) (pp : primeB p = true) (hf : goodL p f) (hm : 0 < f.length) : 0 ≤ mulF p f a b ∧ mulF p f a b < p ^ (f.length - 1) := by
  have h1 := num_bd p1 (prod_bd (p := p) (f := f) (a := a) (b := b) p1)
  have h2 := prod_len (a := a) (b := b) p1 p2 pp hf hm
  have h3 := ipow_le p1 (show (prodL p f a b).length ≤ f.length - 1 by omega)
  unfold mulF
  omega
theorem times_len {p a b : Int} : (timesK p (digs p a) (digs p b) (digs p a).length).length ≤ 28 := by
  have h1 := timesK_len (p := p) (a := digs p a) (b := digs p b) (digs p a).length
  have h2 := digs_len (p := p) (a := a)
  have h3 := digs_len (p := p) (a := b)
  omega
end Lw
set_option linter.unusedVariables false
set_option linter.unusedSimpArgs false
namespace Go.Proofs.Ytjhjppaabmbbbaa
open Go.RowKit
set_option maxHeartbeats 4000000 in
theorem field_mul (p S : Int) (A : Option Addr) (n c : Nat) (f : List Int) (a b : Int) (w : World) (RA : Lw.Rd w 1 A n (Lw.intsV .i64 f)) (p1 : 2 ≤ p) (p2 : p ≤ 251) (pp : Lw.primeB p = true) (hf : Lw.goodL p f) (n1 : 1 ≤ n) (hs : p ^ (n - 1) ≤ 4096) (a0 : 0 ≤ a) (a1 : a < 4096) (b0 : 0 ≤ b) (bb1 : b < 4096) :
    Calls Try.prog 133 #[.agg #[.int .i64 p, .int .i64 S, .slice A n c], .int .i64 a, .int .i64 b] w fun e w' => e = .returned (.int .i64 (Lw.mulF p f a b)) ∧ Below w.heap.size w w' := by
  have la : f.length = n := by have := RA.1; simpa [Lw.intsV] using this
  obtain ⟨W, hW⟩ : ∃ W, w.alloc (.cells #[.int .i64 p, .int .i64 S, .slice A n c] 130) = W := ⟨_, rfl⟩
  have B0 := Lib.hid (show W.heap[w.heap.size]? = some (.cells #[.int .i64 p, .int .i64 S, .slice A n c] 130 (0, 0)) from hW ▸ Lw.blk_new _ _ _)
  have hBW : Below w.heap.size w W := by rw [← hW]; exact Lw.balloc (Below.refl _ _) _
  have hWs : w.heap.size < W.heap.size := by rw [← hW]; simp
  have l0 := Lw.blk_cell B0.out 0; have l1 := Lw.blk_cell B0.out 1; have l2 := Lw.blk_cell B0.out 2
  simp at l0 l1 l2
  have RW := RA.below (Nat.le_refl _) hBW
  have PA := Lib.hid (fun W => field_poly p S a A n c W p1 p2 a0 (by omega))
  have PBB := Lib.hid (fun W => field_poly p S b A n c W p1 p2 b0 (by omega))
  have TI := Lib.hid (fun C m g C' m' g' W (R1 : Lw.Rd W 1 C m (Lw.intsV .i64 (Lw.digs p a))) (R2 : Lw.Rd W 1 C' m' (Lw.intsV .i64 (Lw.digs p b))) => poly_Times p C C' m g m' g' (Lw.digs p a) (Lw.digs p b) W R1 R2 (Lw.digs_bd (by omega) a) (Lw.digs_bd (by omega) b) p1 p2 (by have h1 := R1.1; have h2 := Lw.digs_len (p := p) (a := a); simp [Lw.intsV] at h1; omega) (by have h1 := R2.1; have h2 := Lw.digs_len (p := p) (a := b); simp [Lw.intsV] at h1; omega))
  have TL := Lw.times_len (p := p) (a := a) (b := b)
  have TB := Lw.timesK_bd (p := p) (by omega) (a := Lw.digs p a) (b := Lw.digs p b) (Lw.digs p a).length
  have TT := Lw.timesK_trim (p := p) (a := Lw.digs p a) (b := Lw.digs p b) (Lw.digs p a).length
  have OV := Lib.hid (fun C m g W' (h : Below W.heap.size W W') (R : Lw.Rd W' 1 C m (Lw.intsV .i64 (Lw.timesK p (Lw.digs p a) (Lw.digs p b) (Lw.digs p a).length))) => poly_Over p C A m g n c _ f W' R (RW.below (Nat.le_refl W.heap.size) h) TB hf.1 p1 p2 pp (by have h1 := R.1; simp [Lw.intsV] at h1; omega) (by have := hf.2.2; omega) n1 (Lw.endZ_top hf.2.1 (by omega)))
  have OR : Hid (∀ (W W' : World) (e : Ending), Lw.OvR p (Lw.timesK p (Lw.digs p a) (Lw.digs p b) (Lw.digs p a).length) f W e W' → ∃ C k g D l h, e = .returned (.tuple #[.slice C k g, .slice D l h]) ∧ Lw.Rd W' 1 D l (Lw.intsV .i64 (Lw.prodL p f a b)) ∧ Below W.heap.size W W') := by
    rintro W W' e ⟨j, C, k, g, D, l, h, rfl, r1, r2, h1, h2, h3, h4⟩
    have l3 : (Lw.ovN p (Lw.timesK p (Lw.digs p a) (Lw.digs p b) (Lw.digs p a).length) f (Lw.invR (f.getD (f.length - 1) 0) p) j).2.length = l := by have := r2.1; simpa [Lw.intsV] using this
    have e := Lw.left_end (Lw.inv_top p1 p2 pp hf.1 (Lw.endZ_top hf.2.1 (by omega))) p1 TB TT (by omega) (by omega) h3
    refine ⟨C, k, g, D, l, h, rfl, ?_, h4⟩
    show Lw.Rd W' 1 D l (Lw.intsV .i64 (Lw.trimL _))
    rw [e]; exact r2
  have PLN := Lw.prod_len (a := a) (b := b) p1 p2 pp hf (by omega)
  have PPB := Lw.prod_bd (p := p) (f := f) (a := a) (b := b) p1
  have NU := Lib.hid (fun C m g W (R : Lw.Rd W 1 C m (Lw.intsV .i64 (Lw.prodL p f a b))) => field_number p S A n c C m g _ W R p1 p2 PPB (by have := Lw.ipow_le p1 (show (Lw.prodL p f a b).length ≤ n - 1 by omega); omega) (by have h1 := R.1; have := hf.2.2; simp [Lw.intsV] at h1; omega))
  have MV : Hid (Lw.mulF p f a b = Lw.numL p (Lw.prodL p f a b)) := rfl
  generalize Lw.mulF p f a b = V at *
  generalize Lw.prodL p f a b = PL at *
  generalize Lw.timesK p (Lw.digs p a) (Lw.digs p b) (Lw.digs p a).length = TK at *
  generalize Lw.digs p a = DA at *
  generalize Lw.digs p b = DB at *
  have HW := Lib.hid hW
  clear hW RA RW hf hs TB TT TL PLN PPB pp la
  go_enter Try.func133, Try.ntmps133
  go_wp2_with fail
  rw [HW.out]
  refine wp_region_held_drew (S := Lw.Sm W) (by kernel_rfl) (Lw.sm_drew W) (fun hHeld => ?_)
  (refine Lw.take1 (i := 0) (v := ?_) rfl (by kernel_rfl) (by kernel_rfl) (by kernel_rfl) (fun _ _ _ h => h) (Or.inl ⟨by rfl, ?_⟩) (by assumption) ?_; rotate_left 1; (focus (intro wS hSw; obtain ⟨hS1, hS2, hS3, hS4⟩ := hSw; go_simp <;> with_reducible rfl)); (try simp only [Act.put, List.setIfInBounds_toArray, List.set_cons_zero, List.set_cons_succ]))
  (refine Lw.take1 (i := 1) (v := ?_) rfl (by kernel_rfl) (by kernel_rfl) (by kernel_rfl) (fun _ _ _ h => h) (Or.inl ⟨by rfl, ?_⟩) (by assumption) ?_; rotate_left 1; (focus (intro wS hSw; obtain ⟨hS1, hS2, hS3, hS4⟩ := hSw; go_simp <;> with_reducible rfl)); (try simp only [Act.put, List.setIfInBounds_toArray, List.set_cons_zero, List.set_cons_succ]))
  (refine Lw.take1 (i := 2) (v := ?_) rfl (by kernel_rfl) (by kernel_rfl) (by kernel_rfl) (fun _ _ _ h => h) (Or.inl ⟨by rfl, ?_⟩) (by assumption) ?_; rotate_left 1; (focus (intro wS hSw; obtain ⟨hS1, hS2, hS3, hS4⟩ := hSw; go_simp <;> with_reducible rfl)); (try simp only [Act.put, List.setIfInBounds_toArray, List.set_cons_zero, List.set_cons_succ]))
  (refine Lw.take1 (i := 3) (v := ?_) rfl (by kernel_rfl) (by kernel_rfl) (by kernel_rfl) (fun _ _ _ h => h) (Or.inl ⟨by rfl, ?_⟩) (by assumption) ?_; rotate_left 1; (focus (intro wS hSw; obtain ⟨hS1, hS2, hS3, hS4⟩ := hSw; go_simp <;> with_reducible rfl)); (try simp only [Act.put, List.setIfInBounds_toArray, List.set_cons_zero, List.set_cons_succ]))
  (refine Lw.take1 (i := 4) (v := ?_) rfl (by kernel_rfl) (by kernel_rfl) (by kernel_rfl) (fun _ _ _ h => h) (Or.inl ⟨by rfl, ?_⟩) (by assumption) ?_; rotate_left 1; (focus (intro wS hSw; obtain ⟨hS1, hS2, hS3, hS4⟩ := hSw; go_simp <;> with_reducible rfl)); (try simp only [Act.put, List.setIfInBounds_toArray, List.set_cons_zero, List.set_cons_succ]))
  (refine Lw.take1 (i := 5) (v := ?_) rfl (by kernel_rfl) (by kernel_rfl) (by kernel_rfl) (fun _ _ _ h => h) (Or.inl ⟨by rfl, ?_⟩) (by assumption) ?_; rotate_left 1; (focus (intro wS hSw; obtain ⟨hS1, hS2, hS3, hS4⟩ := hSw; go_simp <;> with_reducible rfl)); (try simp only [Act.put, List.setIfInBounds_toArray, List.set_cons_zero, List.set_cons_succ]))
  (refine Lw.take1 (i := 7) (v := ?_) rfl (by kernel_rfl) (by kernel_rfl) (by kernel_rfl) (fun _ _ _ h => h) (Or.inl ⟨by rfl, ?_⟩) (by assumption) ?_; rotate_left 1; (focus (intro wS hSw; obtain ⟨hS1, hS2, hS3, hS4⟩ := hSw; go_simp <;> with_reducible rfl)); (try simp only [Act.put, List.setIfInBounds_toArray, List.set_cons_zero, List.set_cons_succ]))
  (refine Lw.take1 (i := 8) (v := ?_) rfl (by kernel_rfl) (by kernel_rfl) (by kernel_rfl) (fun _ _ _ h => h) (Or.inl ⟨by rfl, ?_⟩) (by assumption) ?_; rotate_left 1; (focus (intro wS hSw; obtain ⟨hS1, hS2, hS3, hS4⟩ := hSw; go_simp <;> with_reducible rfl)); (try simp only [Act.put, List.setIfInBounds_toArray, List.set_cons_zero, List.set_cons_succ]))
  (refine Lw.take1 (i := 11) (v := ?_) rfl (by kernel_rfl) (by kernel_rfl) (by kernel_rfl) (fun _ _ _ h => h) (Or.inl ⟨by rfl, ?_⟩) (by assumption) ?_; rotate_left 1; (focus (intro wS hSw; obtain ⟨hS1, hS2, hS3, hS4⟩ := hSw; go_simp <;> with_reducible rfl)); (try simp only [Act.put, List.setIfInBounds_toArray, List.set_cons_zero, List.set_cons_succ]))
  (refine Lw.take1 (i := 12) (v := ?_) rfl (by kernel_rfl) (by kernel_rfl) (by kernel_rfl) (fun _ _ _ h => h) (Or.inl ⟨by rfl, ?_⟩) (by assumption) ?_; rotate_left 1; (focus (intro wS hSw; obtain ⟨hS1, hS2, hS3, hS4⟩ := hSw; go_simp <;> with_reducible rfl)); (try simp only [Act.put, List.setIfInBounds_toArray, List.set_cons_zero, List.set_cons_succ]))
  (refine wpAnyH_ready (rs := [6]) (by kernel_rfl) (by simp) ?_; refine Lw.cons1 (i := 6) rfl (fun K hK => ?_) AllReadyH.nil; go_simp; go_at_call 149; (with_reducible refine (PA.out _).mono ?_); rintro e w2 ⟨C, m, g, rfl, R1, hg, hb2⟩; refine hK.out _ _ ?_ (fun hHeld => ?_); (focus exact Lw.sm_keep (Lw.sm_drew W) hb2); clear hK K; (try simp only [Act.put, List.setIfInBounds_toArray, List.set_cons_zero, List.set_cons_succ]))
  have hS2 := Lw.sm_keep (Lw.sm_drew W) hb2
  have R1 := Lib.hid R1
  (refine wpAnyH_ready (rs := [9]) (by kernel_rfl) (by simp) ?_; refine Lw.cons1 (i := 9) rfl (fun K hK => ?_) AllReadyH.nil; go_simp; go_at_call 149; (with_reducible refine (PBB.out _).mono ?_); rintro e w3 ⟨C', m', g', rfl, R2, hg', hb3⟩; refine hK.out _ _ ?_ (fun hHeld => ?_); (focus exact Lw.sm_keep hS2 hb3); clear hK K; (try simp only [Act.put, List.setIfInBounds_toArray, List.set_cons_zero, List.set_cons_succ]))
  have hS3 := Lw.sm_keep hS2 hb3
  have R2 := Lib.hid R2
  (refine wpAnyH_ready (rs := [10]) (by kernel_rfl) (by simp) ?_; refine Lw.cons1 (i := 10) rfl (fun K hK => ?_) AllReadyH.nil; go_simp; go_at_call 81; (with_reducible refine (TI.out _ _ _ _ _ _ _ (R1.out.below (Nat.le_refl _) hb3) R2.out).mono ?_); rintro e w4 ⟨C2, m2, g2, rfl, R3, hg2, hb4⟩; refine hK.out _ _ ?_ (fun hHeld => ?_); (focus exact Lw.sm_keep hS3 hb4); clear hK K; (try simp only [Act.put, List.setIfInBounds_toArray, List.set_cons_zero, List.set_cons_succ]))
  have hS4 := Lw.sm_keep hS3 hb4
  have R3 := Lib.hid R3
  have OVW := Lib.hid (fun h => OV.out _ _ g2 w4 h R3.out)
  (refine wpAnyH_ready (rs := [13]) (by kernel_rfl) (by simp) ?_; refine Lw.cons1 (i := 13) rfl (fun K hK => ?_) AllReadyH.nil; go_simp; go_at_call 148; (with_reducible refine (OVW.out (Lw.sm_bel hS4)).mono ?_); intro e w5 hov; obtain ⟨Cq, kq, gq, D, l, hh, rfl, R4, hb5⟩ := OR.out _ _ _ hov; clear hov; refine hK.out _ _ ?_ (fun hHeld => ?_); (focus exact Lw.sm_keep hS4 hb5); clear hK K; (try simp only [Act.put, List.setIfInBounds_toArray, List.set_cons_zero, List.set_cons_succ]))
  have hS5 := Lw.sm_keep hS4 hb5
  have R4 := Lib.hid R4
  (refine Lw.take1 (i := 14) (v := ?_) rfl (by kernel_rfl) (by kernel_rfl) (by kernel_rfl) (fun _ _ _ h => h) (Or.inl ⟨by rfl, ?_⟩) (by assumption) ?_; rotate_left 1; (focus (intro wS hSw; obtain ⟨hS1, hS2, hS3, hS4⟩ := hSw; go_simp <;> with_reducible rfl)); (try simp only [Act.put, List.setIfInBounds_toArray, List.set_cons_zero, List.set_cons_succ]))
  (refine Lw.take1 (i := 15) (v := ?_) rfl (by kernel_rfl) (by kernel_rfl) (by kernel_rfl) (fun _ _ _ h => h) (Or.inl ⟨by rfl, ?_⟩) (by assumption) ?_; rotate_left 1; (focus (intro wS hSw; obtain ⟨hS1, hS2, hS3, hS4⟩ := hSw; go_simp <;> with_reducible rfl)); (try simp only [Act.put, List.setIfInBounds_toArray, List.set_cons_zero, List.set_cons_succ]))
  (refine Lw.take1 (i := 16) (v := ?_) rfl (by kernel_rfl) (by kernel_rfl) (by kernel_rfl) (fun _ _ _ h => h) (Or.inl ⟨by rfl, ?_⟩) (by assumption) ?_; rotate_left 1; (focus (intro wS hSw; obtain ⟨hS1, hS2, hS3, hS4⟩ := hSw; go_simp <;> with_reducible rfl)); (try simp only [Act.put, List.setIfInBounds_toArray, List.set_cons_zero, List.set_cons_succ]))
  (refine Lw.take1 (i := 17) (v := ?_) rfl (by kernel_rfl) (by kernel_rfl) (by kernel_rfl) (fun _ _ _ h => h) (Or.inl ⟨by rfl, ?_⟩) (by assumption) ?_; rotate_left 1; (focus (intro wS hSw; obtain ⟨hS1, hS2, hS3, hS4⟩ := hSw; go_simp <;> with_reducible rfl)); (try simp only [Act.put, List.setIfInBounds_toArray, List.set_cons_zero, List.set_cons_succ]))
  (refine Lw.take1 (i := 18) (v := ?_) rfl (by kernel_rfl) (by kernel_rfl) (by kernel_rfl) (fun _ _ _ h => h) (Or.inl ⟨by rfl, ?_⟩) (by assumption) ?_; rotate_left 1; (focus (intro wS hSw; obtain ⟨hS1, hS2, hS3, hS4⟩ := hSw; go_simp <;> with_reducible rfl)); (try simp only [Act.put, List.setIfInBounds_toArray, List.set_cons_zero, List.set_cons_succ]))
  refine wpAnyH_done (by kernel_rfl) ?_ _
  have m0 := (hS5.1 ⟨w.heap.size, 0, none⟩ hWs).trans l0
  have m1 := (hS5.1 ⟨w.heap.size, 1, none⟩ hWs).trans l1
  have m2 := (hS5.1 ⟨w.heap.size, 2, none⟩ hWs).trans l2
  go_wp2_with (go_at_call 150; (with_reducible refine (NU.out _ _ _ _ R4.out).mono ?_); rintro e w6 ⟨rfl, hb6⟩)
  go_ret
  exact ⟨by rw [MV.out]; rfl, Lw.bt hBW (Lw.bt hS5.2.2.2 hb6)⟩
set_option maxHeartbeats 1000000 in
theorem ref_FieldMul (p : Int) (A : Option Addr) (n c : Nat) (f : List Int) (a b : Int) (w : World) (RA : Lw.Rd w 1 A n (Lw.intsV .i64 f)) (p1 : 2 ≤ p) (p2 : p ≤ 251) (pp : Lw.primeB p = true) (hf : Lw.goodL p f) (n1 : 1 ≤ n) (hs : p ^ (n - 1) ≤ 4096) (a0 : 0 ≤ a) (a1 : a < 4096) (b0 : 0 ≤ b) (bb1 : b < 4096) :
    Calls Try.prog 48 #[.int .i64 p, .slice A n c, .int .i64 a, .int .i64 b] w fun e w' => e = .returned (.int .i64 (Lw.mulF p f a b)) ∧ Below w.heap.size w w' := by
  have la : f.length = n := by have := RA.1; simpa [Lw.intsV] using this
  have DA := Lib.hid (fun W => ref_digits p a W p1 p2 a0 (by omega))
  have DB := Lib.hid (fun W => ref_digits p b W p1 p2 b0 (by omega))
  have TI := Lib.hid (fun C m g C' m' g' W (R1 : Lw.Rd W 1 C m (Lw.intsV .i64 (Lw.digs p a))) (R2 : Lw.Rd W 1 C' m' (Lw.intsV .i64 (Lw.digs p b))) => ref_Mul p C C' m g m' g' (Lw.digs p a) (Lw.digs p b) W R1 R2 (Lw.digs_bd (by omega) a) (Lw.digs_bd (by omega) b) p1 p2 (by have h1 := R1.1; have h2 := Lw.digs_len (p := p) (a := a); simp [Lw.intsV] at h1; omega) (by have h1 := R2.1; have h2 := Lw.digs_len (p := p) (a := b); simp [Lw.intsV] at h1; omega))
  have TL := Lw.times_len (p := p) (a := a) (b := b)
  have TB := Lw.timesK_bd (p := p) (by omega) (a := Lw.digs p a) (b := Lw.digs p b) (Lw.digs p a).length
  have LF := Lib.hid (fun C m g W' (h : Below w.heap.size w W') (R : Lw.Rd W' 1 C m (Lw.intsV .i64 (Lw.timesK p (Lw.digs p a) (Lw.digs p b) (Lw.digs p a).length))) => (show Calls Try.prog 97 #[.int .i64 p, .slice C m g, .slice A n c] W' (Lw.RetL (Lw.prodL p f a b) W') from ref_left p C A m g n c _ f W' R (RA.below (Nat.le_refl w.heap.size) h) TB hf.1 p1 p2 pp (by have h1 := R.1; simp [Lw.intsV] at h1; omega) (by have := hf.2.2; omega) n1 (Lw.endZ_top hf.2.1 (by omega))))
  have PLN := Lw.prod_len (a := a) (b := b) p1 p2 pp hf (by omega)
  have PPB := Lw.prod_bd (p := p) (f := f) (a := a) (b := b) p1
  have NU := Lib.hid (fun C m g W (R : Lw.Rd W 1 C m (Lw.intsV .i64 (Lw.prodL p f a b))) => ref_number p C m g _ W R p1 p2 PPB (by have := Lw.ipow_le p1 (show (Lw.prodL p f a b).length ≤ n - 1 by omega); omega) (by have h1 := R.1; have := hf.2.2; simp [Lw.intsV] at h1; omega))
  have MV : Hid (Lw.mulF p f a b = Lw.numL p (Lw.prodL p f a b)) := rfl
  generalize Lw.mulF p f a b = V at *
  generalize Lw.prodL p f a b = PL at *
  generalize Lw.timesK p (Lw.digs p a) (Lw.digs p b) (Lw.digs p a).length = TK at *
  generalize Lw.digs p a = L1 at *
  generalize Lw.digs p b = L2 at *
  clear RA hf hs TB TL PLN PPB pp la
  go_enter Try.func48, Try.ntmps48
  go_wp2_with fail
  refine (DA.out _).mono ?_
  rintro e w2 ⟨C, m, g, rfl, R1, hg, hb2⟩
  have R1 := Lib.hid R1
  go_wp2_with fail
  refine (DB.out _).mono ?_
  rintro e w3 ⟨C', m', g', rfl, R2, hg', hb3⟩
  have R2 := Lib.hid R2
  go_wp2_with fail
  refine (TI.out _ _ _ _ _ _ _ (R1.out.below (Nat.le_refl _) hb3) R2.out).mono ?_
  rintro e w4 ⟨C2, m2, g2, rfl, R3, hg2, hb4⟩
  have R3 := Lib.hid R3
  have hB4 := Lw.bt (Lw.bt hb2 hb3) hb4
  go_wp2_with fail
  refine (LF.out _ _ _ _ hB4 R3.out).mono ?_
  rintro e w5 ⟨C3, m3, g3, rfl, R4, hg3, hb5⟩
  have R4 := Lib.hid R4
  go_wp2_with fail
  refine (NU.out _ _ _ _ R4.out).mono ?_
  rintro e w6 ⟨rfl, rfl⟩
  go_wp2_with fail
  go_ret
  exact ⟨by rw [MV.out]; rfl, Lw.bt hB4 hb5⟩
end Go.Proofs.Ytjhjppaabmbbbaa
