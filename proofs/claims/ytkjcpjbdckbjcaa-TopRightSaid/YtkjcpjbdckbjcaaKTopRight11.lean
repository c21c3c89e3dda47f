/- Package relay: a cell that comes back. -/
import Derived.Test.YtkjcpjbdckbjcaaKTopRight10
set_option linter.unusedVariables false
set_option linter.unusedSimpArgs false
namespace Go.Proofs.Ytkjcpjbdckbjcaa
open Go.RowKit
attribute [local go_sem] Oper.semAt_some
set_option maxRecDepth 100000 in
set_option maxHeartbeats 4000000 in
theorem relay_answer (P Q G H there home : Int) (sv : Value) (h : Lw.Hp) (b : Nat) (KA : Option Addr) (kn kc : Nat) (keys : List Int) (w : World) (hb : WayB b P Q G H sv (.slice KA kn kc) there home w) (RK : Lw.Rd w 1 KA kn (Lw.intsV .i64 keys))
    (hk : ∀ k ∈ keys, 0 ≤ k ∧ k < 65536) (ho : h.ok w) (hE : Lw.wrongE kn h = 0) (hKA : ∀ ad, KA = some ad → ad.block ≠ b) (hHA : 0 < h.n → ∀ ad, h.A = some ad → ad.block ≠ b) (hn14 : h.n ≤ 14) (hkl : 0 ≤ keys.getLastD 0 ∧ keys.getLastD 0 < 65536) (hkn : 0 < kn) (hkn2 : kn ≤ 1000) (c1 : 0 ≤ home) (c2 : home ≤ 1000) :
    Calls Try.prog 17 #[.pointer (some ⟨b, 0, none⟩), .agg (HopC h)] w fun e w' => ∃ A' c', e = .returned (.tuple #[.slice A' (Lw.sendC keys (home + 1073741824) h).2.length c', .int .i64 (Lw.sendC keys (home + 1073741824) h).1]) ∧ w'.ownsRow w.heap.size 5 1 (.slice A' (Lw.sendC keys (home + 1073741824) h).2.length c') (Lw.sendC keys (home + 1073741824) h).2.length (Lw.intsV .u8 (Lw.sendC keys (home + 1073741824) h).2) ∧ WayB b P Q G H sv (.slice KA kn kc) there (home + 1) w' ∧ Lw.Tn b w w' := by
  have WR := Lib.hid (fun (w : World) p5 => hE ▸ relay_wrong h b KA kn kc w p5)
  have p5 := Lw.blk_cell hb 5
  simp at p5
  obtain ⟨kd, k, l_1, A, n, c, zs, lk, at', tn⟩ := h
  have hlt := Lw.blk_lt hb
  have AL5 : Hid (∀ o, (w.alloc o).cell? ⟨b, 5, none⟩ = some (.slice KA kn kc)) := fun o => by have := Lw.blk_cell (Lw.blk_alloc hb o) 5; simpa using this
  have LZ := Lib.hid (show zs.length = n by have := ho.1.1; simpa [Lw.intsV] using this)
  have LK := Lib.hid (show keys.length = kn by have := RK.1; simpa [Lw.intsV] using this)
  obtain ⟨cnt, hcnt⟩ : ∃ x, home + 1073741824 = x := ⟨_, rfl⟩
  have hcnt2 : 1073741824 + home = cnt := by omega
  have cn0 : 0 ≤ cnt := by omega
  have cn1 : cnt ≤ 1073742824 := by omega
  rw [hcnt]
  clear hcnt
  refine (callsIn_wide (n := 4)).1 ?_
  refine callsIn_of_wp_marks Try.func17 rfl trivial ?_ rfl
  simp only [Try.ntmps17, List.size_toArray, List.length_cons, List.length_nil, Nat.reduceAdd, Nat.reduceSub, Array.replicate_succ, Array.replicate_zero, List.push_toArray, List.append_toArray, List.nil_append, List.cons_append]
  refine wpIn_wide.2 ?_
  go_wp2_with (go_at_call 34; (with_reducible refine (WR.out _ (AL5.out _)).mono ?_); rintro e w1 ⟨rfl, hb1⟩)
  have HBX := Lib.hid ((hb1.block w.heap.size (by simp)).trans (Lw.blk_new w _ _))
  have hBW1 : Below w.heap.size w w1 := Lw.bt (Lw.balloc (Below.refl _ _) _) hb1
  have WB1 := Lib.hid ((hBW1.block b hlt).trans hb)
  have hs1 := hBW1.size
  have hs0 := hb1.size
  simp at hs0
  have RK1 := Lib.hid (RK.below (Nat.le_refl _) hBW1)
  have HO1 : Hid (Lw.Rd w1 1 A n (Lw.intsV .u8 zs)) := Lw.Rd.below ho.1 (Nat.le_refl _) hBW1
  have HOB := Lib.hid ho.2
  clear hb1 hb RK p5 ho
  obtain ⟨m, hm⟩ : ∃ m : Nat, (kn : Int) - 1 = (m : Int) := ⟨kn - 1, by omega⟩
  have l5 := Lw.blk_cell WB1.out 5
  have l6 := Lw.blk_cell WB1.out 7
  simp at l5 l6
  have hm2 : m < kn := by omega
  obtain ⟨ad, rfl, had, hlast⟩ := RK1.out.at1 hm2 (Lw.intsV_get (by rw [LK.out]; exact hm2))
  have hlt1 : b < w1.heap.size := by omega
  have hadm : (ad.add m).block < w1.heap.size := by rw [Lw.add_block]; exact had
  have hmw : IntKind.i64.wrap (m : Int) = (m : Int) := IntWalk.i64_in _ (by omega)
  have i0 : (0 : Int) ≤ (m : Int) := by omega
  have i1 : (m : Int) < (kn : Int) := by omega
  refine Lw.wp_nop ?_
  refine wp_region_held_drew (S := Lw.Sm w1) (by kernel_rfl) (Lw.sm_drew w1) (fun hHeld => ?_)
  (refine Lw.take1 (i := 0) (v := ?_) rfl (by kernel_rfl) (by kernel_rfl) (by kernel_rfl) (fun _ _ _ h => h) (Or.inl ⟨by rfl, ?_⟩) (by assumption) ?_; rotate_left 1; (focus (intro wS hSw; obtain ⟨hS1, hS2, hS3, hS4⟩ := hSw; go_simp <;> with_reducible rfl)); (try simp only [Act.put, List.setIfInBounds_toArray, List.set_cons_zero, List.set_cons_succ]))
  (refine Lw.take1 (i := 1) (v := ?_) rfl (by kernel_rfl) (by kernel_rfl) (by kernel_rfl) (fun _ _ _ h => h) (Or.inl ⟨by rfl, ?_⟩) (by assumption) ?_; rotate_left 1; (focus (intro wS hSw; obtain ⟨hS1, hS2, hS3, hS4⟩ := hSw; go_simp <;> with_reducible rfl)); (try simp only [Act.put, List.setIfInBounds_toArray, List.set_cons_zero, List.set_cons_succ]))
  (refine Lw.take1 (i := 2) (v := ?_) rfl (by kernel_rfl) (by kernel_rfl) (by kernel_rfl) (fun _ _ _ h => h) (Or.inl ⟨by rfl, ?_⟩) (by assumption) ?_; rotate_left 1; (focus (intro wS hSw; obtain ⟨hS1, hS2, hS3, hS4⟩ := hSw; go_simp <;> with_reducible rfl)); (try simp only [Act.put, List.setIfInBounds_toArray, List.set_cons_zero, List.set_cons_succ]))
  (refine Lw.take1 (i := 3) (v := ?_) rfl (by kernel_rfl) (by kernel_rfl) (by kernel_rfl) (fun _ _ _ h => h) (Or.inl ⟨by rfl, ?_⟩) (by assumption) ?_; rotate_left 1; (focus (intro wS hSw; obtain ⟨hS1, hS2, hS3, hS4⟩ := hSw; go_simp <;> with_reducible rfl)); (try simp only [Act.put, List.setIfInBounds_toArray, List.set_cons_zero, List.set_cons_succ]))
  (refine Lw.take1 (i := 4) (v := ?_) rfl (by kernel_rfl) (by kernel_rfl) (by kernel_rfl) (fun _ _ _ h => h) (Or.inl ⟨by rfl, ?_⟩) (by assumption) ?_; rotate_left 1; (focus (intro wS hSw; obtain ⟨hS1, hS2, hS3, hS4⟩ := hSw; go_simp <;> with_reducible rfl)); (try simp only [Act.put, List.setIfInBounds_toArray, List.set_cons_zero, List.set_cons_succ]))
  (refine Lw.take1 (i := 5) (v := ?_) rfl (by kernel_rfl) (by kernel_rfl) (by kernel_rfl) (fun _ _ _ h => h) (Or.inl ⟨by rfl, ?_⟩) (by assumption) ?_; rotate_left 1; (focus (intro wS hSw; obtain ⟨hS1, hS2, hS3, hS4⟩ := hSw; go_simp <;> with_reducible rfl)); (try simp only [Act.put, List.setIfInBounds_toArray, List.set_cons_zero, List.set_cons_succ]))
  (refine Lw.take1 (i := 6) (v := ?_) rfl (by kernel_rfl) (by kernel_rfl) (by kernel_rfl) (fun _ _ _ h => h) (Or.inl ⟨by rfl, ?_⟩) (by assumption) ?_; rotate_left 1; (focus (intro wS hSw; obtain ⟨hS1, hS2, hS3, hS4⟩ := hSw; go_simp <;> with_reducible rfl)); (try simp only [Act.put, List.setIfInBounds_toArray, List.set_cons_zero, List.set_cons_succ]))
  (refine Lw.take1 (i := 7) (v := ?_) rfl (by kernel_rfl) (by kernel_rfl) (by kernel_rfl) (fun _ _ _ h => h) (Or.inl ⟨by rfl, ?_⟩) (by assumption) ?_; rotate_left 1; (focus (intro wS hSw; obtain ⟨hS1, hS2, hS3, hS4⟩ := hSw; go_simp <;> with_reducible rfl)); (try simp only [Act.put, List.setIfInBounds_toArray, List.set_cons_zero, List.set_cons_succ]))
  (refine Lw.take1 (i := 8) (v := ?_) rfl (by kernel_rfl) (by kernel_rfl) (by kernel_rfl) (fun _ _ _ h => h) (Or.inl ⟨by rfl, ?_⟩) (by assumption) ?_; rotate_left 1; (focus (intro wS hSw; obtain ⟨hS1, hS2, hS3, hS4⟩ := hSw; go_simp <;> with_reducible rfl)); (try simp only [Act.put, List.setIfInBounds_toArray, List.set_cons_zero, List.set_cons_succ]))
  (refine Lw.take1 (i := 9) (v := ?_) rfl (by kernel_rfl) (by kernel_rfl) (by kernel_rfl) (fun _ _ _ h => h) (Or.inl ⟨by rfl, ?_⟩) (by assumption) ?_; rotate_left 1; (focus (intro wS hSw; obtain ⟨hS1, hS2, hS3, hS4⟩ := hSw; go_simp <;> with_reducible rfl)); (try simp only [Act.put, List.setIfInBounds_toArray, List.set_cons_zero, List.set_cons_succ]))
  (refine Lw.take1 (i := 10) (v := ?_) rfl (by kernel_rfl) (by kernel_rfl) (by kernel_rfl) (fun _ _ _ h => h) (Or.inl ⟨by rfl, ?_⟩) (by assumption) ?_; rotate_left 1; (focus (intro wS hSw; obtain ⟨hS1, hS2, hS3, hS4⟩ := hSw; go_simp <;> with_reducible rfl)); (try simp only [Act.put, List.setIfInBounds_toArray, List.set_cons_zero, List.set_cons_succ]))
  (refine Lw.take1 (i := 11) (v := ?_) rfl (by kernel_rfl) (by kernel_rfl) (by kernel_rfl) (fun _ _ _ h => h) (Or.inl ⟨by rfl, ?_⟩) (by assumption) ?_; rotate_left 1; (focus (intro wS hSw; obtain ⟨hS1, hS2, hS3, hS4⟩ := hSw; go_simp <;> with_reducible rfl)); (try simp only [Act.put, List.setIfInBounds_toArray, List.set_cons_zero, List.set_cons_succ]))
  (refine Lw.take1 (i := 12) (v := ?_) rfl (by kernel_rfl) (by kernel_rfl) (by kernel_rfl) (fun _ _ _ h => h) (Or.inl ⟨by rfl, ?_⟩) (by assumption) ?_; rotate_left 1; (focus (intro wS hSw; obtain ⟨hS1, hS2, hS3, hS4⟩ := hSw; go_simp <;> with_reducible rfl)); (try simp only [Act.put, List.setIfInBounds_toArray, List.set_cons_zero, List.set_cons_succ]))
  refine wpAnyH_done (by kernel_rfl) ?_ _
  clear hHeld
  simp only [Lw.NoP]
  have fr6 := Lw.blk_free WB1.out 7
  go_wp2
  refine Lw.at_world (fun W7 HW7 => ?_)
  have T7 : Lw.Tn b w1 W7 := by rw [HW7.out]; exact ((((Lw.Tn.refl b w1).set 7 _).trans (Lw.Tn.of (Lw.balloc (Below.refl _ _) _))).trans (Lw.Tn.of (Lw.balloc (Below.refl _ _) _))).drew
  have BW7 : WayB b P Q G H sv (.slice (some ad) kn kc) there (home + 1) W7 := by rw [HW7.out]; exact Lw.blk_drew (Lw.blk_alloc (Lw.blk_alloc (by simpa using Lw.blk_set_same WB1.out 7 (.int .i64 (home + 1))) _) _)
  have BS7 : W7.heap[w1.heap.size]? = some (.cells #[.slice none 0 0, .int .i64 cnt] 72 (0, 0)) := by rw [HW7.out]; exact Lw.blk_drew (Lw.blk_alloc (Lw.blk_new' (by simp) _ _) _)
  have BP7 : W7.heap[w1.heap.size + 1]? = some (.cells #[.pointer (some ⟨w1.heap.size, 0, none⟩)] 70 (0, 0)) := by rw [HW7.out]; exact Lw.blk_drew (Lw.blk_new' (by simp) _ _)
  have BH7 := (T7.block w.heap.size (by omega) (by omega)).trans HBX.out
  have RK7 := Lib.hid (RK1.out.tn T7 (fun _ => hKA))
  have HO7 := Lib.hid (HO1.out.tn T7 hHA)
  have hs7 := T7.size
  have hz7 : W7.heap.size = w1.heap.size + 2 := by rw [HW7.out]; simp
  have MK := Lib.hid (fun w R => cell_Make_ok (keys.getLastD 0) cnt A n c zs w R HOB.out.1 hn14 hkl.1 hkl.2 cn0 (by omega))
  rw [Lw.last_get (m := m) (by rw [LK.out]; omega)] at MK
  have s1 := Lw.blk_cell BS7 1
  have pp := Lw.blk_cell BP7 0
  have h3 := Lw.blk_cell BH7 3
  simp at s1 pp h3
  have KS : Hid (∀ W' : World, Below W7.heap.size W7 W' → W'.cell? ⟨w1.heap.size, 1, none⟩ = some (.int .i64 cnt) ∧ W'.cell? ⟨w1.heap.size + 1, 0, none⟩ = some (.pointer (some ⟨w1.heap.size, 0, none⟩)) ∧ W'.cell? ⟨w.heap.size, 3, none⟩ = some (.slice A n c) ∧ True) := fun W' hb =>
    ⟨(hb.cell (p := ⟨w1.heap.size, 1, none⟩) (by show w1.heap.size < _; omega)).trans s1, (hb.cell (p := ⟨w1.heap.size + 1, 0, none⟩) (by show w1.heap.size + 1 < _; omega)).trans pp, (hb.cell (p := ⟨w.heap.size, 3, none⟩) (by show w.heap.size < _; omega)).trans h3, trivial⟩
  refine Lw.wp_nop ?_
  refine wp_region_held_drew (S := fun w' => w'.cell? ⟨w1.heap.size, 1, none⟩ = some (.int .i64 cnt) ∧ w'.cell? ⟨w1.heap.size + 1, 0, none⟩ = some (.pointer (some ⟨w1.heap.size, 0, none⟩)) ∧ w'.cell? ⟨w.heap.size, 3, none⟩ = some (.slice A n c) ∧ True) (by kernel_rfl) (by exact ⟨s1, pp, h3, trivial⟩) (fun hHeld => ?_)
  (refine Lw.take1 (i := 0) (v := ?_) rfl (by kernel_rfl) (by kernel_rfl) (by kernel_rfl) (fun _ _ _ h => h) (Or.inl ⟨by rfl, ?_⟩) (by assumption) ?_; rotate_left 1; (focus (intro wS hSw; obtain ⟨hS1, hS2, hS3, hS4⟩ := hSw; go_simp <;> with_reducible rfl)); (try simp only [Act.put, List.setIfInBounds_toArray, List.set_cons_zero, List.set_cons_succ]))
  (refine Lw.take1 (i := 1) (v := ?_) rfl (by kernel_rfl) (by kernel_rfl) (by kernel_rfl) (fun _ _ _ h => h) (Or.inl ⟨by rfl, ?_⟩) (by assumption) ?_; rotate_left 1; (focus (intro wS hSw; obtain ⟨hS1, hS2, hS3, hS4⟩ := hSw; go_simp <;> with_reducible rfl)); (try simp only [Act.put, List.setIfInBounds_toArray, List.set_cons_zero, List.set_cons_succ]))
  (refine Lw.take1 (i := 2) (v := ?_) rfl (by kernel_rfl) (by kernel_rfl) (by kernel_rfl) (fun _ _ _ h => h) (Or.inl ⟨by rfl, ?_⟩) (by assumption) ?_; rotate_left 1; (focus (intro wS hSw; obtain ⟨hS1, hS2, hS3, hS4⟩ := hSw; go_simp <;> with_reducible rfl)); (try simp only [Act.put, List.setIfInBounds_toArray, List.set_cons_zero, List.set_cons_succ]))
  (refine Lw.take1 (i := 3) (v := ?_) rfl (by kernel_rfl) (by kernel_rfl) (by kernel_rfl) (fun _ _ _ h => h) (Or.inl ⟨by rfl, ?_⟩) (by assumption) ?_; rotate_left 1; (focus (intro wS hSw; obtain ⟨hS1, hS2, hS3, hS4⟩ := hSw; go_simp <;> with_reducible rfl)); (try simp only [Act.put, List.setIfInBounds_toArray, List.set_cons_zero, List.set_cons_succ]))
  (refine Lw.take1 (i := 4) (v := ?_) rfl (by kernel_rfl) (by kernel_rfl) (by kernel_rfl) (fun _ _ _ h => h) (Or.inl ⟨by rfl, ?_⟩) (by assumption) ?_; rotate_left 1; (focus (intro wS hSw; obtain ⟨hS1, hS2, hS3, hS4⟩ := hSw; go_simp <;> with_reducible rfl)); (try simp only [Act.put, List.setIfInBounds_toArray, List.set_cons_zero, List.set_cons_succ]))
  (refine Lw.take1 (i := 5) (v := ?_) rfl (by kernel_rfl) (by kernel_rfl) (by kernel_rfl) (fun _ _ _ h => h) (Or.inl ⟨by rfl, ?_⟩) (by assumption) ?_; rotate_left 1; (focus (intro wS hSw; obtain ⟨hS1, hS2, hS3, hS4⟩ := hSw; go_simp <;> with_reducible rfl)); (try simp only [Act.put, List.setIfInBounds_toArray, List.set_cons_zero, List.set_cons_succ]))
  (refine Lw.take1 (i := 6) (v := ?_) rfl (by kernel_rfl) (by kernel_rfl) (by kernel_rfl) (fun _ _ _ h => h) (Or.inl ⟨by rfl, ?_⟩) (by assumption) ?_; rotate_left 1; (focus (intro wS hSw; obtain ⟨hS1, hS2, hS3, hS4⟩ := hSw; go_simp <;> with_reducible rfl)); (try simp only [Act.put, List.setIfInBounds_toArray, List.set_cons_zero, List.set_cons_succ]))
  (refine Lw.take1 (i := 7) (v := ?_) rfl (by kernel_rfl) (by kernel_rfl) (by kernel_rfl) (fun _ _ _ h => h) (Or.inl ⟨by rfl, ?_⟩) (by assumption) ?_; rotate_left 1; (focus (intro wS hSw; obtain ⟨hS1, hS2, hS3, hS4⟩ := hSw; go_simp <;> with_reducible rfl)); (try simp only [Act.put, List.setIfInBounds_toArray, List.set_cons_zero, List.set_cons_succ]))
  (refine wpAnyH_ready (rs := [8]) (by kernel_rfl) (by simp) ?_; refine Lw.cons1 (i := 8) rfl (fun K hK => ?_) AllReadyH.nil; go_simp; go_at_call 35; (with_reducible refine (MK.out _ HO7.out.drew).mono ?_); rintro e w8 ⟨A8, d8, rfl, own8, hb8⟩; refine hK.out _ _ ?_ (fun hHeld => ?_); (focus exact KS.out _ (Lw.bt (Below.drew (Below.refl _ _)) hb8)); clear hK K; (try simp only [Act.put, List.setIfInBounds_toArray, List.set_cons_zero, List.set_cons_succ]))
  (refine Lw.take1 (i := 9) (v := ?_) rfl (by kernel_rfl) (by kernel_rfl) (by kernel_rfl) (fun _ _ _ h => h) (Or.inl ⟨by rfl, ?_⟩) (by assumption) ?_; rotate_left 1; (focus (intro wS hSw; obtain ⟨hS1, hS2, hS3, hS4⟩ := hSw; go_simp <;> with_reducible rfl)); (try simp only [Act.put, List.setIfInBounds_toArray, List.set_cons_zero, List.set_cons_succ]))
  (refine Lw.take1 (i := 10) (v := ?_) rfl (by kernel_rfl) (by kernel_rfl) (by kernel_rfl) (fun _ _ _ h => h) (Or.inl ⟨by rfl, ?_⟩) (by assumption) ?_; rotate_left 1; (focus (intro wS hSw; obtain ⟨hS1, hS2, hS3, hS4⟩ := hSw; go_simp <;> with_reducible rfl)); (try simp only [Act.put, List.setIfInBounds_toArray, List.set_cons_zero, List.set_cons_succ]))
  (refine Lw.take1 (i := 11) (v := ?_) rfl (by kernel_rfl) (by kernel_rfl) (by kernel_rfl) (fun _ _ _ h => h) (Or.inl ⟨by rfl, ?_⟩) (by assumption) ?_; rotate_left 1; (focus (intro wS hSw; obtain ⟨hS1, hS2, hS3, hS4⟩ := hSw; go_simp <;> with_reducible rfl)); (try simp only [Act.put, List.setIfInBounds_toArray, List.set_cons_zero, List.set_cons_succ]))
  (refine Lw.take1 (i := 12) (v := ?_) rfl (by kernel_rfl) (by kernel_rfl) (by kernel_rfl) (fun _ _ _ h => h) (Or.inl ⟨by rfl, ?_⟩) (by assumption) ?_; rotate_left 1; (focus (intro wS hSw; obtain ⟨hS1, hS2, hS3, hS4⟩ := hSw; go_simp <;> with_reducible rfl)); (try simp only [Act.put, List.setIfInBounds_toArray, List.set_cons_zero, List.set_cons_succ]))
  (refine Lw.take1 (i := 13) (v := ?_) rfl (by kernel_rfl) (by kernel_rfl) (by kernel_rfl) (fun _ _ _ h => h) (Or.inl ⟨by rfl, ?_⟩) (by assumption) ?_; rotate_left 1; (focus (intro wS hSw; obtain ⟨hS1, hS2, hS3, hS4⟩ := hSw; go_simp <;> with_reducible rfl)); (try simp only [Act.put, List.setIfInBounds_toArray, List.set_cons_zero, List.set_cons_succ]))
  have B8 := (hb8.block w1.heap.size (by show w1.heap.size < W7.heap.size; omega)).trans BS7
  have q0 := Lw.blk_free B8 0
  have r0 := Lw.blk_cell B8 0
  have r1 := Lw.blk_cell (Lw.settwo (u := .slice A8 17 d8) B8) 1
  have hb78 : Below W7.heap.size W7 w8 := Lw.bt (Below.drew (Below.refl _ _)) hb8
  have KS8 := KS.out _ hb78
  simp at r0 r1
  have KS9 : (w8.setCell ⟨w1.heap.size, 0, none⟩ (.slice A8 17 d8)).cell? ⟨w1.heap.size + 1, 0, none⟩ = some (.pointer (some ⟨w1.heap.size, 0, none⟩)) ∧ (w8.setCell ⟨w1.heap.size, 0, none⟩ (.slice A8 17 d8)).cell? ⟨w.heap.size, 3, none⟩ = some (.slice A n c) :=
    ⟨(World.cell?_setCell_far _ _ _ _ (by show w1.heap.size ≠ w1.heap.size + 1; omega)).trans KS8.2.1, (World.cell?_setCell_far _ _ _ _ (by show w1.heap.size ≠ w.heap.size; omega)).trans KS8.2.2.1⟩
  (refine wpAnyH_ready (rs := [14]) (by kernel_rfl) (by simp) ?_; refine Lw.cons1 (i := 14) rfl (fun K hK => ?_) AllReadyH.nil; go_simp; refine hK.out _ _ ?_ (fun hHeld => ?_); (focus exact ⟨r1, KS9.1, KS9.2, trivial⟩); clear hK K; (try simp only [Act.put, List.setIfInBounds_toArray, List.set_cons_zero, List.set_cons_succ]))
  refine wpAnyH_done (by kernel_rfl) ?_ _
  clear hHeld
  simp only [Lw.NoP]
  have BS9 : SentB w1.heap.size A8 d8 cnt (w8.setCell ⟨w1.heap.size, 0, none⟩ (.slice A8 17 d8)) := Lw.settwo B8
  have T89 : Lw.Tn w1.heap.size w8 (w8.setCell ⟨w1.heap.size, 0, none⟩ (.slice A8 17 d8)) := (Lw.Tn.refl _ _).set 0 _
  have own9 := Lw.own_tn own8 T89 (fun e => by have := (own8.lt _ e).1; have : W7.drew.heap.size = W7.heap.size := rfl; omega)
  have T79 : Lw.Tn w1.heap.size W7 (w8.setCell ⟨w1.heap.size, 0, none⟩ (.slice A8 17 d8)) := (Lw.Tn.of hb78).trans T89
  generalize w8.setCell ⟨w1.heap.size, 0, none⟩ (.slice A8 17 d8) = W9 at *
  have BW9 := (T79.block b (by omega) (by omega)).trans BW7
  have BP9 := (T79.block (w1.heap.size + 1) (by omega) (by omega)).trans BP7
  have BH9 := (T79.block w.heap.size (by omega) (by omega)).trans BH7
  have RK9 := Lib.hid (RK7.out.tn T79 (fun _ ad' e => by injection e with e; subst e; omega))
  have T9 : Lw.Tn b w W9 := ⟨T79.os.trans (T7.os.trans hBW1.os), T79.tape.trans (T7.tape.trans hBW1.tape), T79.output.trans (T7.output.trans hBW1.output), by have := T79.size; omega, fun k hk h1 => (T79.block k (by omega) (by omega)).trans ((T7.block k (by omega) h1).trans (hBW1.block k hk))⟩
  have g5 := Lw.blk_cell BW9 5
  have gp := Lw.blk_cell BP9 0
  simp at g5 gp
  have hs9 := T79.size
  have hn9 : W7.drew.heap.size = W7.heap.size := rfl
  have BW9 := Lib.hid BW9
  have BH9 := Lib.hid BH9
  have BP9 := Lib.hid BP9
  have OWN9 := Lib.hid own9
  clear B8 q0 r0 r1 KS8 KS9 hb78 hb8 own8 own9 T89 KS MK s1 pp h3 RK7 HO7 T7 HW7 BW7 BS7 BP7 BH7 T79 RK1 HO1 l5 l6 fr6 WB1 HBX
  go_wp2_with (go_at_call 36; (with_reducible refine (bkw_ints _ _ _ _).mono ?_); rintro e w' ⟨rfl, rfl⟩)
  obtain ⟨cl, hcl⟩ : ∃ cl, Lw.cellL (keys[m]'(by rw [LK.out]; exact hm2)) cnt zs = cl := ⟨_, rfl⟩
  have CB : Lw.Byt cl := hcl ▸ Lw.cellL_byt (by rw [LZ.out]; exact hn14) HOB.out.1
  rw [hcl] at OWN9
  have SC : Hid (Lw.sendC keys cnt ⟨kd, k, l_1, A, n, c, zs, lk, at', tn⟩ = Lw.readC (keys[m]'(by rw [LK.out]; exact hm2)) cnt (Lw.turnL at'.toNat tn cl)) := by
    show Lw.readC _ _ _ = _
    rw [Lw.last_get (m := m) (by rw [LK.out]; omega), ← hcl]
  have KB := Lib.hid (hk _ (List.getElem_mem (show m < keys.length by rw [LK.out]; exact hm2)))
  have RD := Lib.hid (fun A c w R hc => cell_Read (keys[m]'(by rw [LK.out]; exact hm2)) cnt A c (Lw.turnL at'.toNat tn cl) w R (Lw.turnL_byt CB HOB.out.2.1 HOB.out.2.2) hc KB.out.1 KB.out.2 cn0 (by omega))
  obtain ⟨lk', hlk0, hlk1, hlk2⟩ : ∃ lk' : Int, 0 ≤ lk' ∧ lk' < (kn : Int) ∧ (tn = 0 ∨ (¬ tn = 0 ∧ lk' = lk ∧ at' = ((at'.toNat : Nat) : Int) ∧ at'.toNat < 17)) := by
    by_cases ht : tn = 0
    · exact ⟨0, by omega, by omega, .inl ht⟩
    · rw [Lw.wrongE_def, if_neg (by omega), if_neg (by omega)] at hE
      split at hE
      · cases hE
      · exact ⟨lk, by omega, by omega, .inr ⟨ht, rfl, by omega, by omega⟩⟩
  refine (wpIn_wide (n := 4)).1 ?_
  obtain ⟨WL, HWL⟩ : ∃ WL, W9.alloc (.cells #[.slice (some ad) kn kc] 43) = WL := ⟨_, rfl⟩
  have hL : WL.heap.size = W9.heap.size + 1 := by rw [← HWL]; simp
  have T9L : Below W9.heap.size W9 WL := by rw [← HWL]; exact Lw.balloc (Below.refl _ _) _
  have hcS : WL.cell? ⟨W9.heap.size, 0, none⟩ = some (.slice (some ad) kn kc) := by
    have := Lw.blk_cell (Lw.blk_new W9 #[.slice (some ad) kn kc] 43) 0
    rw [← HWL, this]; rfl
  have RW : Lw.Rd WL 1 (some ad) kn ((Lw.kys keys hk).map (fun a => Value.int .i64 a.1)) := by
    have e : (Lw.kys keys hk).map (fun a => Value.int .i64 a.1) = Lw.intsV .i64 keys := by
      have := congrArg (List.map (Value.int .i64)) (Lw.kys_map keys hk)
      rw [List.map_map] at this; exact this
    rw [e]; exact RK9.out.below (Nat.le_refl _) T9L
  have BSL := (T9L.block w1.heap.size (by omega)).trans BS9
  have BPL := Lib.hid ((T9L.block (w1.heap.size + 1) (by omega)).trans BP9.out)
  have OWNL := Lw.ownsBelow OWN9.out (Nat.le_refl _) T9L
  have hadW := had
  rw [HWL]
  refine wpIn_rangeFunc_ownG rfl (by omega) (gf := 54) (lb := #[.pointer (some ⟨W9.heap.size, 0, none⟩)]) rfl trivial (enters_of Try.func54 (by kernel_rfl) rfl)
    (bkw_ints_stops (fun a : Lw.Ky => .int .i64 a.1) (Lw.kys keys hk) W9.heap.size ad.block kn kc (some ad) (by omega) _ (by omega) _ (by omega) (by omega) hcS RW (fun _ ad' e => by injection e with e; rw [e])) Lw.KB.trans (Lw.KB.put (by omega) (by omega)) (Below.refl _ _) (fun _ => rfl)
    (fun pre W => ∃ A c, SentB w1.heap.size A c cnt W ∧ W.ownsRow W7.drew.heap.size 5 1 (.slice A 17 c) 17 (Lw.intsV .u8 (Lw.hoF cnt lk' at'.toNat tn cl pre)) ∧ Lw.Tn w1.heap.size WL W)
    (fun _ _ _ => False)
    (Lw.own_ex fun A => Lw.own_ex fun c => Lw.own_and (Lw.blk_own _ _ _ (fun _ => rfl)) (Lw.own_and (Lw.own_rowF _ _ _) (Lw.own_tnF (Nat.le_refl _))))
    (fun _ _ _ _ _ hs _ _ => hs)
    ⟨A8, d8, BSL, OWNL, Lw.Tn.refl _ _⟩
    ?a1 ?assign ?body ?done ?stop
  case assign =>
    intro l x W K hK
    gi_wp2
    exact hK
  case body =>
    rintro l pre ⟨i, ⟨kk, hk1, hk2⟩⟩ W ⟨A1, d1, hS, own, hT⟩ hlen
    have cp := Lw.blk_cell ((hT.block (w1.heap.size + 1) (by omega) (by omega)).trans BPL.out) 0
    simp at cp
    have hcb := Lw.hoF_byt cnt lk' at'.toNat HOB.out.2.1 HOB.out.2.2 pre CB
    have LY := Lib.hid (relay_layer kk cnt w1.heap.size A1 d1 _ W hS (Lw.Rd.of_own own) hcb hk1 hk2 cn0 (by omega))
    have hcb2 := Lw.layL_byt (key := kk) (count := cnt) hcb
    have HSN := Lib.hid (Lw.hoF_snoc cnt lk' at'.toNat tn cl pre (i, ⟨kk, hk1, hk2⟩))
    have BHL := Lib.hid ((T9L.block w.heap.size (by omega)).trans BH9.out)
    have hsW := hT.size
    generalize Lw.layL kk cnt (Lw.hoF cnt lk' at'.toNat tn cl pre) = tb at *
    gi_wp2_with fail
    refine ⟨trivial, ?_⟩
    gi_at_call 37
    refine (CallsIn.inRound l (callsIn_wide.2 LY.out)).mono ?_
    rintro e w2 ⟨rfl, A2, d2, hS2, own2, hT2⟩
    have hs2 := hT2.size
    have BH2 := (hT2.block w.heap.size (by omega) (by omega)).trans ((hT.block w.heap.size (by omega) (by omega)).trans BHL.out)
    have u0 := Lw.blk_cell BH2 0; have u1 := Lw.blk_cell BH2 1; have u2 := Lw.blk_cell BH2 2; have u3 := Lw.blk_cell BH2 3; have u4 := Lw.blk_cell BH2 4; have u5 := Lw.blk_cell BH2 5; have u6 := Lw.blk_cell BH2 6
    simp at u0 u1 u2 u3 u4 u5 u6
    have cp2 := Lw.blk_cell ((hT2.block (w1.heap.size + 1) (by omega) (by omega)).trans ((hT.block (w1.heap.size + 1) (by omega) (by omega)).trans BPL.out)) 0
    simp at cp2
    have PS := Lib.hid (relay_pass ⟨kd, k, l_1, A, n, c, zs, lk, at', tn⟩ w1.heap.size W.heap.size at'.toNat (i : Int) lk' cnt A2 d2 _ w2 hS2 own2 hcb2 hlk2 HOB.out.2.1 HOB.out.2.2)
    gi_wp2_with fail
    refine ⟨trivial, ?_⟩
    gi_at_call 38
    refine (CallsIn.inRound l (callsIn_wide.2 PS.out)).mono ?_
    rintro e w3 ⟨rfl, hS3, own3, g3, hg3, hT3⟩
    have hg30 := own2.lt g3 hg3
    have hs3 := hT3.size
    gi_wp2
    have hT23 : Lw.Tn w1.heap.size W w3 := ⟨hT3.os.trans hT2.os, hT3.tape.trans hT2.tape, hT3.output.trans hT2.output, by omega, fun k hk h1 => (hT3.block k (by omega) (by omega)).trans (hT2.block k hk h1)⟩
    exact ⟨Lw.ko_tn hT23 (by omega), ⟨hT23.block _ (by omega) (by omega), hT23.block _ (by omega) (by omega)⟩, A2, d2, hS3, by rw [HSN.out]; exact Lw.ownsBase own3 (by omega), hT.trans hT23⟩
  case stop => exact fun _ _ _ _ _ _ h _ => h.elim
  case done =>
    rintro D ys W hD rfl ⟨A1, d1, hS, own, hT⟩ hK
    rw [Lw.hoF_bks cnt lk' at'.toNat tn cl keys hk (by rw [LK.out]; exact hlk1) keys.length 0 (by omega), Lw.off_zero hlk0] at own
    have T0 := hT.block
    have hz := hT.size
    have hbt : Lw.BT W7.heap.size w1.heap.size WL W := Lw.BT.of hT (by omega)
    have hDW := Lw.blk_lt hK
    have BWL := Lib.hid ((T9L.block b (by omega)).trans BW9.out)
    have BHL := Lib.hid ((T9L.block w.heap.size (by omega)).trans BH9.out)
    have BW10 := (hbt.block b (by omega) (by omega)).trans BWL.out
    have y5 := Lw.blk_cell BW10 5
    simp at y5
    have OWNS := Lib.hid own
    go_wp2
    clear y5 BW10 own
    go_loopw [12, 78] (fun _ i wr => ∃ (j : Nat) (A : Option Addr) (c : Nat), i = .int .i64 (j : Int) ∧ j ≤ kn ∧ SentB w1.heap.size A c cnt wr ∧ wr.ownsRow W7.drew.heap.size 5 1 (.slice A 17 c) 17 (Lw.intsV .u8 (Lw.offS keys cnt at'.toNat tn cl j)) ∧ Lw.BT W7.heap.size w1.heap.size WL wr ∧ wr.heap[D]? = some (.deferred (some []))) (fun _ i _ => kn - (intOf i).toNat)
    case atStart => exact ⟨0, A1, d1, rfl, by omega, hS, OWNS.out, hbt, hK⟩
    case round =>
      obtain ⟨j, A3, d3, rfl, hj, hS3, own3, hbt3, hK3⟩ := hrel
      have bp := Lw.blk_cell ((hbt3.block (w1.heap.size + 1) (by omega) (by omega)).trans BPL.out) 0
      simp at bp
      have hz3 := hbt3.size
      have thB : Lw.Byt (Lw.offS keys cnt at'.toNat tn cl j) := Lw.turnL_byt (Lw.layA_byt CB _) HOB.out.2.1 HOB.out.2.2
      by_cases hlt3 : j < kn
      · have hl3 : j < keys.length := by rw [LK.out]; exact hlt3
        obtain ⟨ad', e9, had9, hkey⟩ := RK9.out.at1 hlt3 (Lw.intsV_get hl3)
        obtain rfl : ad = ad' := by injection e9
        have kc3 : wr.cell? (ad.add j) = some (.int .i64 keys[j]) := ((Lw.cell_of_blk _ ((hbt3.block _ (by rw [Lw.add_block]; omega) (by rw [Lw.add_block]; omega)).trans (T9L.block _ (by rw [Lw.add_block]; omega)))).trans hkey)
        obtain ⟨kj0, kj1⟩ := hk _ (List.getElem_mem hl3)
        have ST := Lib.hid (Lw.off_step (count := cnt) (a := at'.toNat) (t := tn) hl3 CB)
        have LY := Lib.hid (relay_layer keys[j] cnt w1.heap.size A3 d3 _ wr hS3 (Lw.Rd.of_own own3) thB kj0 kj1 cn0 (by omega))
        obtain ⟨kj, hkj⟩ : ∃ x, keys[j] = x := ⟨_, rfl⟩
        rw [hkj] at kc3 kj0 kj1 ST LY
        have hj0 : (0 : Int) ≤ (j : Int) := by omega
        have hj1 : (j : Int) < (kn : Int) := by omega
        clear hkey hkj e9 had9
        go_wp2_with fail
        refine LY.out.mono ?_
        rintro e w3 ⟨rfl, A5, d5, hS5, own5, hT5⟩
        rw [ST.out] at own5
        have hDlt := Lw.blk_lt hK3
        go_wp2
        go_roundw
        case rel => exact ⟨j + 1, A5, d5, by go_num, by omega, hS5, Lw.ownsBase own5 (by have : W7.drew.heap.size = W7.heap.size := rfl; omega), hbt3.trans (Lw.BT.of hT5 (by omega)), (hT5.block D (by omega) (by omega)).trans hK3⟩
        case measure => simp [intOf]; omega
      · have hj1 : ¬ (j : Int) < (kn : Int) := by omega
        have EN : Hid (Lw.offS keys cnt at'.toNat tn cl j = Lw.turnL at'.toNat tn cl) := by
          have := Lw.off_end (ks := keys) (count := cnt) (a := at'.toNat) (t := tn) (cell := cl)
          rw [LK.out] at this
          rw [show j = kn by omega]; exact this
        rw [EN.out] at own3
        have hcap : 17 ≤ d3 := by
          rcases own3.2 with ⟨h0, _⟩ | ⟨g, cap, cur, hv, _, _, hc, _⟩
          · cases h0
          · injection hv with _ _ e3; omega
        have f0 := Lw.blk_cell hS3 0
        have f1 := Lw.blk_cell hS3 1
        simp at f0 f1
        have R3 := Lib.hid (Lw.Rd.of_own own3)
        have hs3 : w1.heap.size < wr.heap.size := by omega
        have hs4 : w1.heap.size + 1 < wr.heap.size := by omega
        go_wp2
        refine Lw.wp_nop ?_
        refine wp_region_held_drew (S := Lw.Sm wr) (by kernel_rfl) (Lw.sm_drew wr) (fun hHeld => ?_)
        (refine Lw.take1 (i := 0) (v := ?_) rfl (by kernel_rfl) (by kernel_rfl) (by kernel_rfl) (fun _ _ _ h => h) (Or.inl ⟨by rfl, ?_⟩) (by assumption) ?_; rotate_left 1; (focus (intro wS hSw; obtain ⟨hS1, hS2, hS3, hS4⟩ := hSw; go_simp <;> with_reducible rfl)); (try simp only [Act.put, List.setIfInBounds_toArray, List.set_cons_zero, List.set_cons_succ]))
        (refine Lw.take1 (i := 1) (v := ?_) rfl (by kernel_rfl) (by kernel_rfl) (by kernel_rfl) (fun _ _ _ h => h) (Or.inl ⟨by rfl, ?_⟩) (by assumption) ?_; rotate_left 1; (focus (intro wS hSw; obtain ⟨hS1, hS2, hS3, hS4⟩ := hSw; go_simp <;> with_reducible rfl)); (try simp only [Act.put, List.setIfInBounds_toArray, List.set_cons_zero, List.set_cons_succ]))
        (refine Lw.take1 (i := 2) (v := ?_) rfl (by kernel_rfl) (by kernel_rfl) (by kernel_rfl) (fun _ _ _ h => h) (Or.inl ⟨by rfl, ?_⟩) (by assumption) ?_; rotate_left 1; (focus (intro wS hSw; obtain ⟨hS1, hS2, hS3, hS4⟩ := hSw; go_simp <;> with_reducible rfl)); (try simp only [Act.put, List.setIfInBounds_toArray, List.set_cons_zero, List.set_cons_succ]))
        (refine Lw.take1 (i := 3) (v := ?_) rfl (by kernel_rfl) (by kernel_rfl) (by kernel_rfl) (fun _ _ _ h => h) (Or.inl ⟨by rfl, ?_⟩) (by assumption) ?_; rotate_left 1; (focus (intro wS hSw; obtain ⟨hS1, hS2, hS3, hS4⟩ := hSw; go_simp <;> with_reducible rfl)); (try simp only [Act.put, List.setIfInBounds_toArray, List.set_cons_zero, List.set_cons_succ]))
        (refine Lw.take1 (i := 4) (v := ?_) rfl (by kernel_rfl) (by kernel_rfl) (by kernel_rfl) (fun _ _ _ h => h) (Or.inl ⟨by rfl, ?_⟩) (by assumption) ?_; rotate_left 1; (focus (intro wS hSw; obtain ⟨hS1, hS2, hS3, hS4⟩ := hSw; go_simp <;> with_reducible rfl)); (try simp only [Act.put, List.setIfInBounds_toArray, List.set_cons_zero, List.set_cons_succ]))
        (refine Lw.take1 (i := 5) (v := ?_) rfl (by kernel_rfl) (by kernel_rfl) (by kernel_rfl) (fun _ _ _ h => h) (Or.inl ⟨by rfl, ?_⟩) (by assumption) ?_; rotate_left 1; (focus (intro wS hSw; obtain ⟨hS1, hS2, hS3, hS4⟩ := hSw; go_simp <;> with_reducible rfl)); (try simp only [Act.put, List.setIfInBounds_toArray, List.set_cons_zero, List.set_cons_succ]))
        (refine Lw.take1 (i := 6) (v := ?_) rfl (by kernel_rfl) (by kernel_rfl) (by kernel_rfl) (fun _ _ _ h => h) (Or.inl ⟨by rfl, ?_⟩) (by assumption) ?_; rotate_left 1; (focus (intro wS hSw; obtain ⟨hS1, hS2, hS3, hS4⟩ := hSw; go_simp <;> with_reducible rfl)); (try simp only [Act.put, List.setIfInBounds_toArray, List.set_cons_zero, List.set_cons_succ]))
        (refine Lw.take1 (i := 7) (v := ?_) rfl (by kernel_rfl) (by kernel_rfl) (by kernel_rfl) (fun _ _ _ h => h) (Or.inl ⟨by rfl, ?_⟩) (by assumption) ?_; rotate_left 1; (focus (intro wS hSw; obtain ⟨hS1, hS2, hS3, hS4⟩ := hSw; go_simp <;> with_reducible rfl)); (try simp only [Act.put, List.setIfInBounds_toArray, List.set_cons_zero, List.set_cons_succ]))
        (refine Lw.take1 (i := 8) (v := ?_) rfl (by kernel_rfl) (by kernel_rfl) (by kernel_rfl) (fun _ _ _ h => h) (Or.inl ⟨by rfl, ?_⟩) (by assumption) ?_; rotate_left 1; (focus (intro wS hSw; obtain ⟨hS1, hS2, hS3, hS4⟩ := hSw; go_simp <;> with_reducible rfl)); (try simp only [Act.put, List.setIfInBounds_toArray, List.set_cons_zero, List.set_cons_succ]))
        (refine wpAnyH_ready (rs := [9]) (by kernel_rfl) (by simp) ?_; refine Lw.cons1 (i := 9) rfl (fun K hK => ?_) AllReadyH.nil; go_simp; go_at_call 39; (with_reducible refine (RD.out _ _ _ R3.out.drew hcap).mono ?_); rintro e w5 ⟨A5, d5, rfl, own5, hb5⟩; refine hK.out _ _ ?_ (fun hHeld => ?_); (focus exact Lw.sm_keep (Lw.sm_drew wr) hb5); clear hK K; (try simp only [Act.put, List.setIfInBounds_toArray, List.set_cons_zero, List.set_cons_succ]))
        have hB5 := Lw.sm_bel (Lw.sm_keep (Lw.sm_drew wr) hb5)
        (refine Lw.take1 (i := 10) (v := ?_) rfl (by kernel_rfl) (by kernel_rfl) (by kernel_rfl) (fun _ _ _ h => h) (Or.inl ⟨by rfl, ?_⟩) (by assumption) ?_; rotate_left 1; (focus (intro wS hSw; obtain ⟨hS1, hS2, hS3, hS4⟩ := hSw; go_simp <;> with_reducible rfl)); (try simp only [Act.put, List.setIfInBounds_toArray, List.set_cons_zero, List.set_cons_succ]))
        (refine Lw.take1 (i := 11) (v := ?_) rfl (by kernel_rfl) (by kernel_rfl) (by kernel_rfl) (fun _ _ _ h => h) (Or.inl ⟨by rfl, ?_⟩) (by assumption) ?_; rotate_left 1; (focus (intro wS hSw; obtain ⟨hS1, hS2, hS3, hS4⟩ := hSw; go_simp <;> with_reducible rfl)); (try simp only [Act.put, List.setIfInBounds_toArray, List.set_cons_zero, List.set_cons_succ]))
        (refine Lw.take1 (i := 12) (v := ?_) rfl (by kernel_rfl) (by kernel_rfl) (by kernel_rfl) (fun _ _ _ h => h) (Or.inl ⟨by rfl, ?_⟩) (by assumption) ?_; rotate_left 1; (focus (intro wS hSw; obtain ⟨hS1, hS2, hS3, hS4⟩ := hSw; go_simp <;> with_reducible rfl)); (try simp only [Act.put, List.setIfInBounds_toArray, List.set_cons_zero, List.set_cons_succ]))
        (refine Lw.take1 (i := 13) (v := ?_) rfl (by kernel_rfl) (by kernel_rfl) (by kernel_rfl) (fun _ _ _ h => h) (Or.inl ⟨by rfl, ?_⟩) (by assumption) ?_; rotate_left 1; (focus (intro wS hSw; obtain ⟨hS1, hS2, hS3, hS4⟩ := hSw; go_simp <;> with_reducible rfl)); (try simp only [Act.put, List.setIfInBounds_toArray, List.set_cons_zero, List.set_cons_succ]))
        refine wpAnyH_done (by kernel_rfl) ?_ _
        clear hHeld
        rw [← SC.out] at own5 ⊢
        simp only [Lw.NoP]
        go_wp2
        have hDlt := Lw.blk_lt hK3
        have hz5 := hB5.size
        have hTf : Lw.Tn b w w5 := ⟨hB5.os.trans (hbt3.os.trans (T9L.os.trans T9.os)), hB5.tape.trans (hbt3.tape.trans (T9L.tape.trans T9.tape)), hB5.output.trans (hbt3.output.trans (T9L.output.trans T9.output)), by omega, fun k hk h1 => (hB5.block k (by omega)).trans ((hbt3.block k (by omega) (by omega)).trans ((T9L.block k (by omega)).trans (T9.block k hk h1)))⟩
        refine ⟨by simp, .inl ⟨_, _, rfl, run_takeDeferred ((hB5.block D hDlt).trans hK3), ?_⟩⟩
        exact way_end rfl (Lw.ownsBase own5 (by show w.heap.size ≤ wr.heap.size; omega)) ((hB5.block b (by omega)).trans ((hbt3.block b (by omega) (by omega)).trans BWL.out)) hTf ((hB5.block D hDlt).trans hK3) (by omega) rfl rfl
end Go.Proofs.Ytkjcpjbdckbjcaa
