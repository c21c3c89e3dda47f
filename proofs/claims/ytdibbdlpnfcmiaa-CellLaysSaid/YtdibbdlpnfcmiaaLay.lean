/- cell.Layer and the reference's Layer. -/
import Derived.Test.YtdibbdlpnfcmiaaCell2
namespace Lw
open Go Go.RowKit
/-- what is laid on byte i -/
def layB (key count : Int) (i : Nat) : Int := hsum (namedL key count ++ [(i : Int), 3]) % 256
def layL (key count : Int) (bs : List Int) : List Int := bs.mapIdx fun i b => xorI b (layB key count i)
theorem layB_bd (key count : Int) (i : Nat) : 0 ≤ layB key count i ∧ layB key count i < 256 := by unfold layB; omega
theorem xorI_byte {a b : Int} (a0 : 0 ≤ a) (a1 : a < 256) (b0 : 0 ≤ b) (b1 : b < 256) : 0 ≤ xorI a b ∧ xorI a b < 256 := by
  unfold xorI
  have : a.toNat ^^^ b.toNat < 2 ^ 8 := Nat.xor_lt_two_pow (by omega) (by omega)
  omega
theorem layL_length (key count : Int) (bs : List Int) : (layL key count bs).length = bs.length := by simp [layL]
theorem layL_get {key count : Int} {bs : List Int} {i : Nat} (h : i < bs.length) : (layL key count bs)[i]'(by rw [layL_length]; exact h) = xorI bs[i] (layB key count i) := by simp [layL]
theorem layL_byt {key count : Int} {bs : List Int} (h : Byt bs) : Byt (layL key count bs) := by
  intro x hx
  obtain ⟨i, hi, rfl⟩ := List.getElem_of_mem hx
  have hl : i < bs.length := by rw [layL_length] at hi; exact hi
  rw [layL_get hl]
  have h1 := h _ (List.getElem_mem hl)
  have h2 := layB_bd key count i
  exact xorI_byte h1.1 h1.2 h2.1 h2.2
/-- the first k bytes with what is laid on them -/
def mixL (key count : Int) (bs : List Int) (k : Nat) : List Int := (layL key count bs).take k ++ bs.drop k
theorem mixL_get {key count : Int} {bs : List Int} {k : Nat} (h : k < bs.length) : (intsV .u8 (mixL key count bs k))[k]? = some (.int .u8 bs[k]) := by
  have e : (mixL key count bs k)[k]? = some bs[k] := by
    unfold mixL
    rw [List.getElem?_append_right (by rw [List.length_take]; omega), List.length_take, layL_length, Nat.min_eq_left (by omega), Nat.sub_self, List.getElem?_drop]
    simp [h]
  simp [intsV, e]
theorem mixL_next {key count : Int} {bs : List Int} {k : Nat} (h : k < bs.length) : intsV .u8 (mixL key count bs (k + 1)) = (intsV .u8 (mixL key count bs k)).set k (.int .u8 (xorI bs[k] (layB key count k))) := by
  unfold intsV
  rw [← List.map_set]
  congr 1
  unfold mixL
  rw [List.set_append_right _ _ (by rw [List.length_take]; omega), List.length_take, layL_length, Nat.min_eq_left (by omega), Nat.sub_self, List.drop_eq_getElem_cons h, List.set_cons_zero]
  rw [List.take_succ_eq_append_getElem (by rw [layL_length]; exact h), layL_get h]
  simp
theorem mixL_end {key count : Int} {bs : List Int} {n : Nat} (h : bs.length = n) : mixL key count bs n = layL key count bs := by
  unfold mixL
  rw [List.take_of_length_le (by rw [layL_length]; omega), List.drop_of_length_le (by omega)]
  simp
end Lw
set_option linter.unusedVariables false
set_option linter.unusedSimpArgs false
namespace Go.Proofs.Ytdibbdlpnfcmiaa
open Go.RowKit
set_option maxHeartbeats 4000000 in
theorem cell_Layer_ok (key count : Int) (A : Option Addr) (c : Nat) (bs : List Int) (w : World) (R : Lw.Rd w 1 A 17 (Lw.intsV .u8 bs)) (hy : Lw.Byt bs) (k1 : 0 ≤ key) (k2 : key < 65536) (c1 : 0 ≤ count) (c2 : count ≤ 2147483648) :
    Calls Try.prog 25 #[.int .i64 key, .int .i64 count, .slice A 17 c] w fun e w' => ∃ A' c', e = .returned (.tuple #[.slice A' 17 c', .int .i64 0]) ∧ w'.ownsRow w.heap.size 5 1 (.slice A' 17 c') 17 (Lw.intsV .u8 (Lw.layL key count bs)) ∧ Below w.heap.size w w' := by
  have k3 : ¬ key < 0 := by omega
  have k4 : ¬ 65536 ≤ key := by omega
  have c3 : ¬ count < 0 := by omega
  have c4 : ¬ 2147483648 < count := by omega
  have R := Lib.hid R
  have l1 : bs.length = 17 := by have := R.out.1; simpa [Lw.intsV] using this
  have L := Lib.hid l1
  clear l1
  go_enter Try.func25, Try.ntmps25
  go_wp2_with (first | (go_at_call 49; go_in) | (go_at_call 55; (with_reducible refine (cell_named key count _ k1 (by omega) c1 (by omega)).mono ?_); rintro e w1 ⟨A1, d1, rfl, own1, hb1⟩) | (go_at_call 56; (with_reducible refine (bytes_clone A 17 c _ _ (R.out.below (Nat.le_refl _) hb1) (Lw.intsV_one _ _) (by decide)).mono ?_); rintro e w2 ⟨A2, d2, rfl, own2, hb2⟩))
  have R1n := Lib.hid (Lw.Rd.of_own own1)
  obtain ⟨g, rfl⟩ : ∃ g, A2 = some ⟨g, 0, none⟩ := by
    rcases own2.2 with ⟨h0, _⟩ | ⟨g, cap, cur, hv, _⟩
    · cases h0
    · injection hv with e1; exact ⟨g, e1⟩
  have own2 : w2.ownsRow w1.heap.size 5 1 (.slice (some ⟨g, 0, none⟩) 17 d2) 17 (Lw.intsV .u8 (Lw.mixL key count bs 0)) := own2
  have OWN2 := Lib.hid own2
  clear own1 own2
  go_loopw [10, 24] (fun x i wr => ∃ k : Nat, i = .int .i64 (k : Int) ∧ k ≤ 17 ∧ wr.ownsRow w1.heap.size 5 1 (.slice (some ⟨g, 0, none⟩) 17 d2) 17 (Lw.intsV .u8 (Lw.mixL key count bs k)) ∧ Below w1.heap.size w1 wr) (fun _ i _ => 17 - (intOf i).toNat)
  case atStart => exact ⟨0, rfl, by omega, OWN2.out, hb2⟩
  case round =>
    clear OWN2 hb2
    obtain ⟨k, rfl, kk, own, hB⟩ := hrel
    have hsz := hB.size
    by_cases hlt : k < 17
    · have hl : k < bs.length := by rw [L.out]; exact hlt
      have NX := Lib.hid (Lw.mixL_next (key := key) (count := count) hl)
      obtain ⟨c0, f0, hg0, hgl⟩ := Lw.own_cell own (Lw.mixL_get (key := key) (count := count) hl)
      have hob := hy _ (List.getElem_mem hl)
      obtain ⟨ob1, ob2⟩ := hob
      obtain ⟨s1, s2⟩ := Lw.hsum_bd (Lw.namedL key count ++ [(k : Int), 3])
      have HX : Hid (Go.bits .xor .u8 bs[k] (Lw.hsum (Lw.namedL key count ++ [(k : Int), 3]) % 256) = Lw.xorI bs[k] (Lw.layB key count k)) := Go.u8_xor _ _ ob1 ob2 (by omega) (by omega)
      have C := fun (A : Option Addr) (c : Nat) (w : World) R => hash_Of A (6 + 2) c (Lw.namedL key count ++ [(k : Int), 3]) w R ((Lw.namedL_byt _ _).app (by intro z hz; simp at hz; omega)) (by omega)
      rw [Lw.intsV_app] at C
      have C := Lib.hid C
      have N1 : Hid (Lw.Rd w1 1 A1 6 (Lw.intsV .u8 (Lw.namedL key count))) := R1n
      have OWN := Lib.hid own
      clear own
      obtain ⟨new, hnew⟩ : ∃ z, Lw.xorI bs[k] (Lw.layB key count k) = z := ⟨_, rfl⟩
      rw [hnew] at HX NX
      obtain ⟨old, hold⟩ : ∃ z, bs[k] = z := ⟨_, rfl⟩
      rw [hold] at c0 HX ob1 ob2
      generalize Lw.hsum (Lw.namedL key count ++ [(k : Int), 3]) = s at *
      clear hnew hold
      have i0 : (0 : Int) ≤ (k : Int) := by omega
      have i1 : (k : Int) < 17 := by omega
      have km : (k : Int) % 256 = k := by omega
      have km := Lib.hid km
      have kw : IntKind.u8.wrap (k : Int) = k := by rw [IntKind.wrap_u8]; omega
      have sw : IntKind.u8.wrap s = s % 256 := by rw [IntKind.wrap_u8]
      have kw := Lib.hid kw
      have sw := Lib.hid sw
      go_wp2
      have HX1 := HX.out
      have kw1 := kw.out
      have sw1 := sw.out
      refine wp_region_held_drew (S := fun _ => True) (by kernel_rfl) trivial (fun hHeld => ?_)
      (refine Lw.take1 (i := 0) (v := ?_) rfl (by kernel_rfl) (by kernel_rfl) (by kernel_rfl) (fun _ _ _ h => h) (Or.inl ⟨by rfl, ?_⟩) (by assumption) ?_; rotate_left 1; (focus (intro wS hSw; (try dsimp only at hSw); go_simp <;> with_reducible rfl)); (try simp only [Act.put, List.setIfInBounds_toArray, List.set_cons_zero, List.set_cons_succ]))
      (refine Lw.take1 (i := 1) (v := ?_) rfl (by kernel_rfl) (by kernel_rfl) (by kernel_rfl) (fun _ _ _ h => h) (Or.inl ⟨by rfl, ?_⟩) (by assumption) ?_; rotate_left 1; (focus (intro wS hSw; (try dsimp only at hSw); go_simp <;> with_reducible rfl)); (try simp only [Act.put, List.setIfInBounds_toArray, List.set_cons_zero, List.set_cons_succ]))
      (refine Lw.take1 (i := 2) (v := ?_) rfl (by kernel_rfl) (by kernel_rfl) (by kernel_rfl) (fun _ _ _ h => h) (Or.inl ⟨by rfl, ?_⟩) (by assumption) ?_; rotate_left 1; (focus (intro wS hSw; (try dsimp only at hSw); go_simp <;> with_reducible rfl)); (try simp only [Act.put, List.setIfInBounds_toArray, List.set_cons_zero, List.set_cons_succ]))
      (refine Lw.take1 (i := 4) (v := ?_) rfl (by kernel_rfl) (by kernel_rfl) (by kernel_rfl) (fun _ _ _ h => h) (Or.inl ⟨by rfl, ?_⟩) (by assumption) ?_; rotate_left 1; (focus (intro wS hSw; (try dsimp only at hSw); go_simp <;> with_reducible rfl)); (try simp only [Act.put, List.setIfInBounds_toArray, List.set_cons_zero, List.set_cons_succ]))
      (refine Lw.take1 (i := 5) (v := ?_) rfl (by kernel_rfl) (by kernel_rfl) (by kernel_rfl) (fun _ _ _ h => h) (Or.inl ⟨by rfl, ?_⟩) (by assumption) ?_; rotate_left 1; (focus (intro wS hSw; (try dsimp only at hSw); go_simp <;> with_reducible rfl)); (try simp only [Act.put, List.setIfInBounds_toArray, List.set_cons_zero, List.set_cons_succ]))
      (refine Lw.take1 (i := 6) (v := ?_) rfl (by kernel_rfl) (by kernel_rfl) (by kernel_rfl) (fun _ _ _ h => h) (Or.inl ⟨by rfl, ?_⟩) (by assumption) ?_; rotate_left 1; (focus (intro wS hSw; (try dsimp only at hSw); go_simp <;> with_reducible rfl)); (try simp only [Act.put, List.setIfInBounds_toArray, List.set_cons_zero, List.set_cons_succ]))
      refine wpAnyH_ready (rs := [3, 7]) (by kernel_rfl) (by simp) ?_
      refine Lw.cons1 (i := 3) rfl (fun K hK => ?_) ?_
      · skip
        go_simp
        refine hK.out _ _ trivial (fun _ => ?_)
        clear hK K
        (try simp only [Act.put, List.setIfInBounds_toArray, List.set_cons_zero, List.set_cons_succ])
        refine wpAnyH_ready (rs := [7]) (by kernel_rfl) (by simp) ?_
        refine Lw.cons1 (i := 7) rfl (fun K hK => ?_) AllReadyH.nil
        go_simp
        refine hK.out _ _ trivial (fun _ => ?_)
        clear hK K
        (try simp only [Act.put, List.setIfInBounds_toArray, List.set_cons_zero, List.set_cons_succ])
        refine wpAnyH_ready (rs := [8]) (by kernel_rfl) (by simp) ?_
        refine Lw.cons1 (i := 8) rfl (fun K hK => ?_) AllReadyH.nil
        go_simp
        refine hK.out _ _ trivial (fun _ => ?_)
        clear hK K
        (try simp only [Act.put, List.setIfInBounds_toArray, List.set_cons_zero, List.set_cons_succ])
        refine wpAnyH_ready (rs := [9]) (by kernel_rfl) (by simp) ?_
        refine Lw.cons1 (i := 9) rfl (fun K hK => ?_) AllReadyH.nil
        go_simp
        go_at_call 57
        (with_reducible refine (bytes_cat _ A1 (some ⟨wr.heap.size, 0, none⟩) _ d1 2 6 2 (Lw.intsV .u8 (Lw.namedL key count)) (Lw.intsV .u8 [(k : Int), 3]) _ (by exact Lw.Rd.lit (Lw.blk_drew (Lw.blk_new' (by simp) _ _)) rfl rfl) (by exact N1.out.below (Nat.le_refl _) (Below.drew (Lw.balloc (Lw.balloc hB _) _))) (by exact Lw.Rd.lit (Lw.blk_drew (Lw.blk_alloc (Lw.blk_new' (by simp) _ _) _)) rfl rfl) (Lw.intsV_one _ _) (Lw.intsV_one _ _) (by decide)).mono ?_); rintro e w3 ⟨A3, d3, rfl, own3, hb3⟩
        have hB3 : Below wr.heap.size wr w3 := Lw.bt (Below.drew (Lw.balloc (Lw.balloc (Below.refl _ _) _) _)) hb3
        have c3 : w3.cell? ⟨g, k, none⟩ = some (.int .u8 old) := (hB3.cell (p := ⟨g, k, none⟩) hgl).trans c0
        refine hK.out _ _ trivial (fun _ => ?_)
        clear hK K
        (try simp only [Act.put, List.setIfInBounds_toArray, List.set_cons_zero, List.set_cons_succ])
        refine wpAnyH_ready (rs := [10]) (by kernel_rfl) (by simp) ?_
        refine Lw.cons1 (i := 10) rfl (fun K hK => ?_) AllReadyH.nil
        go_simp
        go_at_call 35
        (with_reducible refine (C.out _ _ _ (Lw.Rd.of_own own3)).mono ?_); rintro e w4 ⟨rfl, hb4⟩
        have hB4 : Below wr.heap.size wr w4 := Lw.bt hB3 hb4
        have c4 : w4.cell? ⟨g, k, none⟩ = some (.int .u8 old) := (hB4.cell (p := ⟨g, k, none⟩) hgl).trans c0
        have f4 : w4.frozen? ⟨g, k, none⟩ = false := (hB4.frozen (p := ⟨g, k, none⟩) hgl).trans f0
        refine hK.out _ _ trivial (fun _ => ?_)
        clear hK K
        (try simp only [Act.put, List.setIfInBounds_toArray, List.set_cons_zero, List.set_cons_succ])
        (refine Lw.take1 (i := 11) (v := ?_) rfl (by kernel_rfl) (by kernel_rfl) (by kernel_rfl) (fun _ _ _ h => h) (Or.inl ⟨by rfl, ?_⟩) (by assumption) ?_; rotate_left 1; (focus (intro wS hSw; (try dsimp only at hSw); go_simp <;> with_reducible rfl)); (try simp only [Act.put, List.setIfInBounds_toArray, List.set_cons_zero, List.set_cons_succ]))
        (refine Lw.take1 (i := 12) (v := ?_) rfl (by kernel_rfl) (by kernel_rfl) (by kernel_rfl) (fun _ _ _ h => h) (Or.inl ⟨by rfl, ?_⟩) (by assumption) ?_; rotate_left 1; (focus (intro wS hSw; (try dsimp only at hSw); go_simp <;> with_reducible rfl)); (try simp only [Act.put, List.setIfInBounds_toArray, List.set_cons_zero, List.set_cons_succ]))
        (refine Lw.take1 (i := 13) (v := ?_) rfl (by kernel_rfl) (by kernel_rfl) (by kernel_rfl) (fun _ _ _ h => h) (Or.inl ⟨by rfl, ?_⟩) (by assumption) ?_; rotate_left 1; (focus (intro wS hSw; (try dsimp only at hSw); go_simp <;> with_reducible rfl)); (try simp only [Act.put, List.setIfInBounds_toArray, List.set_cons_zero, List.set_cons_succ]))
        refine wpAnyH_ready (rs := [14]) (by kernel_rfl) (by simp) ?_
        refine Lw.cons1 (i := 14) rfl (fun K hK => ?_) AllReadyH.nil
        go_simp
        refine hK.out _ _ trivial (fun _ => ?_)
        clear hK K
        (try simp only [Act.put, List.setIfInBounds_toArray, List.set_cons_zero, List.set_cons_succ])
        refine wpAnyH_done (by kernel_rfl) ?_ _
        go_wp2
        go_roundw
        case rel => exact ⟨k + 1, by go_num, by omega, by rw [NX.out]; exact Lw.own_set (Lw.ownsBelow OWN.out (Nat.le_refl _) hB4) hlt, Lw.bset (Lw.bt hB hB4) hg0 _⟩
        case measure => simp [intOf]; omega
      · refine Lw.cons1 (i := 7) rfl (fun K hK => ?_) AllReadyH.nil
        go_simp
        refine hK.out _ _ trivial (fun _ => ?_)
        clear hK K
        (try simp only [Act.put, List.setIfInBounds_toArray, List.set_cons_zero, List.set_cons_succ])
        refine wpAnyH_ready (rs := [3, 8]) (by kernel_rfl) (by simp) ?_
        refine Lw.cons1 (i := 3) rfl (fun K hK => ?_) ?_
        · skip
          go_simp
          refine hK.out _ _ trivial (fun _ => ?_)
          clear hK K
          (try simp only [Act.put, List.setIfInBounds_toArray, List.set_cons_zero, List.set_cons_succ])
          refine wpAnyH_ready (rs := [8]) (by kernel_rfl) (by simp) ?_
          refine Lw.cons1 (i := 8) rfl (fun K hK => ?_) AllReadyH.nil
          go_simp
          refine hK.out _ _ trivial (fun _ => ?_)
          clear hK K
          (try simp only [Act.put, List.setIfInBounds_toArray, List.set_cons_zero, List.set_cons_succ])
          refine wpAnyH_ready (rs := [9]) (by kernel_rfl) (by simp) ?_
          refine Lw.cons1 (i := 9) rfl (fun K hK => ?_) AllReadyH.nil
          go_simp
          go_at_call 57
          (with_reducible refine (bytes_cat _ A1 (some ⟨wr.heap.size, 0, none⟩) _ d1 2 6 2 (Lw.intsV .u8 (Lw.namedL key count)) (Lw.intsV .u8 [(k : Int), 3]) _ (by exact Lw.Rd.lit (Lw.blk_drew (Lw.blk_new' (by simp) _ _)) rfl rfl) (by exact N1.out.below (Nat.le_refl _) (Below.drew (Lw.balloc (Lw.balloc hB _) _))) (by exact Lw.Rd.lit (Lw.blk_drew (Lw.blk_alloc (Lw.blk_new' (by simp) _ _) _)) rfl rfl) (Lw.intsV_one _ _) (Lw.intsV_one _ _) (by decide)).mono ?_); rintro e w3 ⟨A3, d3, rfl, own3, hb3⟩
          have hB3 : Below wr.heap.size wr w3 := Lw.bt (Below.drew (Lw.balloc (Lw.balloc (Below.refl _ _) _) _)) hb3
          have c3 : w3.cell? ⟨g, k, none⟩ = some (.int .u8 old) := (hB3.cell (p := ⟨g, k, none⟩) hgl).trans c0
          refine hK.out _ _ trivial (fun _ => ?_)
          clear hK K
          (try simp only [Act.put, List.setIfInBounds_toArray, List.set_cons_zero, List.set_cons_succ])
          refine wpAnyH_ready (rs := [10]) (by kernel_rfl) (by simp) ?_
          refine Lw.cons1 (i := 10) rfl (fun K hK => ?_) AllReadyH.nil
          go_simp
          go_at_call 35
          (with_reducible refine (C.out _ _ _ (Lw.Rd.of_own own3)).mono ?_); rintro e w4 ⟨rfl, hb4⟩
          have hB4 : Below wr.heap.size wr w4 := Lw.bt hB3 hb4
          have c4 : w4.cell? ⟨g, k, none⟩ = some (.int .u8 old) := (hB4.cell (p := ⟨g, k, none⟩) hgl).trans c0
          have f4 : w4.frozen? ⟨g, k, none⟩ = false := (hB4.frozen (p := ⟨g, k, none⟩) hgl).trans f0
          refine hK.out _ _ trivial (fun _ => ?_)
          clear hK K
          (try simp only [Act.put, List.setIfInBounds_toArray, List.set_cons_zero, List.set_cons_succ])
          (refine Lw.take1 (i := 11) (v := ?_) rfl (by kernel_rfl) (by kernel_rfl) (by kernel_rfl) (fun _ _ _ h => h) (Or.inl ⟨by rfl, ?_⟩) (by assumption) ?_; rotate_left 1; (focus (intro wS hSw; (try dsimp only at hSw); go_simp <;> with_reducible rfl)); (try simp only [Act.put, List.setIfInBounds_toArray, List.set_cons_zero, List.set_cons_succ]))
          (refine Lw.take1 (i := 12) (v := ?_) rfl (by kernel_rfl) (by kernel_rfl) (by kernel_rfl) (fun _ _ _ h => h) (Or.inl ⟨by rfl, ?_⟩) (by assumption) ?_; rotate_left 1; (focus (intro wS hSw; (try dsimp only at hSw); go_simp <;> with_reducible rfl)); (try simp only [Act.put, List.setIfInBounds_toArray, List.set_cons_zero, List.set_cons_succ]))
          (refine Lw.take1 (i := 13) (v := ?_) rfl (by kernel_rfl) (by kernel_rfl) (by kernel_rfl) (fun _ _ _ h => h) (Or.inl ⟨by rfl, ?_⟩) (by assumption) ?_; rotate_left 1; (focus (intro wS hSw; (try dsimp only at hSw); go_simp <;> with_reducible rfl)); (try simp only [Act.put, List.setIfInBounds_toArray, List.set_cons_zero, List.set_cons_succ]))
          refine wpAnyH_ready (rs := [14]) (by kernel_rfl) (by simp) ?_
          refine Lw.cons1 (i := 14) rfl (fun K hK => ?_) AllReadyH.nil
          go_simp
          refine hK.out _ _ trivial (fun _ => ?_)
          clear hK K
          (try simp only [Act.put, List.setIfInBounds_toArray, List.set_cons_zero, List.set_cons_succ])
          refine wpAnyH_done (by kernel_rfl) ?_ _
          go_wp2
          go_roundw
          case rel => exact ⟨k + 1, by go_num, by omega, by rw [NX.out]; exact Lw.own_set (Lw.ownsBelow OWN.out (Nat.le_refl _) hB4) hlt, Lw.bset (Lw.bt hB hB4) hg0 _⟩
          case measure => simp [intOf]; omega
        · refine Lw.cons1 (i := 8) rfl (fun K hK => ?_) AllReadyH.nil
          go_simp
          refine hK.out _ _ trivial (fun _ => ?_)
          clear hK K
          (try simp only [Act.put, List.setIfInBounds_toArray, List.set_cons_zero, List.set_cons_succ])
          refine wpAnyH_ready (rs := [3, 9]) (by kernel_rfl) (by simp) ?_
          refine Lw.cons1 (i := 3) rfl (fun K hK => ?_) ?_
          · skip
            go_simp
            refine hK.out _ _ trivial (fun _ => ?_)
            clear hK K
            (try simp only [Act.put, List.setIfInBounds_toArray, List.set_cons_zero, List.set_cons_succ])
            refine wpAnyH_ready (rs := [9]) (by kernel_rfl) (by simp) ?_
            refine Lw.cons1 (i := 9) rfl (fun K hK => ?_) AllReadyH.nil
            go_simp
            go_at_call 57
            (with_reducible refine (bytes_cat _ A1 (some ⟨wr.heap.size, 0, none⟩) _ d1 2 6 2 (Lw.intsV .u8 (Lw.namedL key count)) (Lw.intsV .u8 [(k : Int), 3]) _ (by exact Lw.Rd.lit (Lw.blk_drew (Lw.blk_new' (by simp) _ _)) rfl rfl) (by exact N1.out.below (Nat.le_refl _) (Below.drew (Lw.balloc (Lw.balloc hB _) _))) (by exact Lw.Rd.lit (Lw.blk_drew (Lw.blk_alloc (Lw.blk_new' (by simp) _ _) _)) rfl rfl) (Lw.intsV_one _ _) (Lw.intsV_one _ _) (by decide)).mono ?_); rintro e w3 ⟨A3, d3, rfl, own3, hb3⟩
            have hB3 : Below wr.heap.size wr w3 := Lw.bt (Below.drew (Lw.balloc (Lw.balloc (Below.refl _ _) _) _)) hb3
            have c3 : w3.cell? ⟨g, k, none⟩ = some (.int .u8 old) := (hB3.cell (p := ⟨g, k, none⟩) hgl).trans c0
            refine hK.out _ _ trivial (fun _ => ?_)
            clear hK K
            (try simp only [Act.put, List.setIfInBounds_toArray, List.set_cons_zero, List.set_cons_succ])
            refine wpAnyH_ready (rs := [10]) (by kernel_rfl) (by simp) ?_
            refine Lw.cons1 (i := 10) rfl (fun K hK => ?_) AllReadyH.nil
            go_simp
            go_at_call 35
            (with_reducible refine (C.out _ _ _ (Lw.Rd.of_own own3)).mono ?_); rintro e w4 ⟨rfl, hb4⟩
            have hB4 : Below wr.heap.size wr w4 := Lw.bt hB3 hb4
            have c4 : w4.cell? ⟨g, k, none⟩ = some (.int .u8 old) := (hB4.cell (p := ⟨g, k, none⟩) hgl).trans c0
            have f4 : w4.frozen? ⟨g, k, none⟩ = false := (hB4.frozen (p := ⟨g, k, none⟩) hgl).trans f0
            refine hK.out _ _ trivial (fun _ => ?_)
            clear hK K
            (try simp only [Act.put, List.setIfInBounds_toArray, List.set_cons_zero, List.set_cons_succ])
            (refine Lw.take1 (i := 11) (v := ?_) rfl (by kernel_rfl) (by kernel_rfl) (by kernel_rfl) (fun _ _ _ h => h) (Or.inl ⟨by rfl, ?_⟩) (by assumption) ?_; rotate_left 1; (focus (intro wS hSw; (try dsimp only at hSw); go_simp <;> with_reducible rfl)); (try simp only [Act.put, List.setIfInBounds_toArray, List.set_cons_zero, List.set_cons_succ]))
            (refine Lw.take1 (i := 12) (v := ?_) rfl (by kernel_rfl) (by kernel_rfl) (by kernel_rfl) (fun _ _ _ h => h) (Or.inl ⟨by rfl, ?_⟩) (by assumption) ?_; rotate_left 1; (focus (intro wS hSw; (try dsimp only at hSw); go_simp <;> with_reducible rfl)); (try simp only [Act.put, List.setIfInBounds_toArray, List.set_cons_zero, List.set_cons_succ]))
            (refine Lw.take1 (i := 13) (v := ?_) rfl (by kernel_rfl) (by kernel_rfl) (by kernel_rfl) (fun _ _ _ h => h) (Or.inl ⟨by rfl, ?_⟩) (by assumption) ?_; rotate_left 1; (focus (intro wS hSw; (try dsimp only at hSw); go_simp <;> with_reducible rfl)); (try simp only [Act.put, List.setIfInBounds_toArray, List.set_cons_zero, List.set_cons_succ]))
            refine wpAnyH_ready (rs := [14]) (by kernel_rfl) (by simp) ?_
            refine Lw.cons1 (i := 14) rfl (fun K hK => ?_) AllReadyH.nil
            go_simp
            refine hK.out _ _ trivial (fun _ => ?_)
            clear hK K
            (try simp only [Act.put, List.setIfInBounds_toArray, List.set_cons_zero, List.set_cons_succ])
            refine wpAnyH_done (by kernel_rfl) ?_ _
            go_wp2
            go_roundw
            case rel => exact ⟨k + 1, by go_num, by omega, by rw [NX.out]; exact Lw.own_set (Lw.ownsBelow OWN.out (Nat.le_refl _) hB4) hlt, Lw.bset (Lw.bt hB hB4) hg0 _⟩
            case measure => simp [intOf]; omega
          · refine Lw.cons1 (i := 9) rfl (fun K hK => ?_) AllReadyH.nil
            go_simp
            go_at_call 57
            (with_reducible refine (bytes_cat _ A1 (some ⟨wr.heap.size, 0, none⟩) _ d1 2 6 2 (Lw.intsV .u8 (Lw.namedL key count)) (Lw.intsV .u8 [(k : Int), 3]) _ (by exact Lw.Rd.lit (Lw.blk_drew (Lw.blk_new' (by simp) _ _)) rfl rfl) (by exact N1.out.below (Nat.le_refl _) (Below.drew (Lw.balloc (Lw.balloc hB _) _))) (by exact Lw.Rd.lit (Lw.blk_drew (Lw.blk_alloc (Lw.blk_new' (by simp) _ _) _)) rfl rfl) (Lw.intsV_one _ _) (Lw.intsV_one _ _) (by decide)).mono ?_); rintro e w3 ⟨A3, d3, rfl, own3, hb3⟩
            have hB3 : Below wr.heap.size wr w3 := Lw.bt (Below.drew (Lw.balloc (Lw.balloc (Below.refl _ _) _) _)) hb3
            have c3 : w3.cell? ⟨g, k, none⟩ = some (.int .u8 old) := (hB3.cell (p := ⟨g, k, none⟩) hgl).trans c0
            refine hK.out _ _ trivial (fun _ => ?_)
            clear hK K
            (try simp only [Act.put, List.setIfInBounds_toArray, List.set_cons_zero, List.set_cons_succ])
            refine wpAnyH_ready (rs := [3, 10]) (by kernel_rfl) (by simp) ?_
            refine Lw.cons1 (i := 3) rfl (fun K hK => ?_) ?_
            · skip
              go_simp
              refine hK.out _ _ trivial (fun _ => ?_)
              clear hK K
              (try simp only [Act.put, List.setIfInBounds_toArray, List.set_cons_zero, List.set_cons_succ])
              refine wpAnyH_ready (rs := [10]) (by kernel_rfl) (by simp) ?_
              refine Lw.cons1 (i := 10) rfl (fun K hK => ?_) AllReadyH.nil
              go_simp
              go_at_call 35
              (with_reducible refine (C.out _ _ _ (Lw.Rd.of_own own3)).mono ?_); rintro e w4 ⟨rfl, hb4⟩
              have hB4 : Below wr.heap.size wr w4 := Lw.bt hB3 hb4
              have c4 : w4.cell? ⟨g, k, none⟩ = some (.int .u8 old) := (hB4.cell (p := ⟨g, k, none⟩) hgl).trans c0
              have f4 : w4.frozen? ⟨g, k, none⟩ = false := (hB4.frozen (p := ⟨g, k, none⟩) hgl).trans f0
              refine hK.out _ _ trivial (fun _ => ?_)
              clear hK K
              (try simp only [Act.put, List.setIfInBounds_toArray, List.set_cons_zero, List.set_cons_succ])
              (refine Lw.take1 (i := 11) (v := ?_) rfl (by kernel_rfl) (by kernel_rfl) (by kernel_rfl) (fun _ _ _ h => h) (Or.inl ⟨by rfl, ?_⟩) (by assumption) ?_; rotate_left 1; (focus (intro wS hSw; (try dsimp only at hSw); go_simp <;> with_reducible rfl)); (try simp only [Act.put, List.setIfInBounds_toArray, List.set_cons_zero, List.set_cons_succ]))
              (refine Lw.take1 (i := 12) (v := ?_) rfl (by kernel_rfl) (by kernel_rfl) (by kernel_rfl) (fun _ _ _ h => h) (Or.inl ⟨by rfl, ?_⟩) (by assumption) ?_; rotate_left 1; (focus (intro wS hSw; (try dsimp only at hSw); go_simp <;> with_reducible rfl)); (try simp only [Act.put, List.setIfInBounds_toArray, List.set_cons_zero, List.set_cons_succ]))
              (refine Lw.take1 (i := 13) (v := ?_) rfl (by kernel_rfl) (by kernel_rfl) (by kernel_rfl) (fun _ _ _ h => h) (Or.inl ⟨by rfl, ?_⟩) (by assumption) ?_; rotate_left 1; (focus (intro wS hSw; (try dsimp only at hSw); go_simp <;> with_reducible rfl)); (try simp only [Act.put, List.setIfInBounds_toArray, List.set_cons_zero, List.set_cons_succ]))
              refine wpAnyH_ready (rs := [14]) (by kernel_rfl) (by simp) ?_
              refine Lw.cons1 (i := 14) rfl (fun K hK => ?_) AllReadyH.nil
              go_simp
              refine hK.out _ _ trivial (fun _ => ?_)
              clear hK K
              (try simp only [Act.put, List.setIfInBounds_toArray, List.set_cons_zero, List.set_cons_succ])
              refine wpAnyH_done (by kernel_rfl) ?_ _
              go_wp2
              go_roundw
              case rel => exact ⟨k + 1, by go_num, by omega, by rw [NX.out]; exact Lw.own_set (Lw.ownsBelow OWN.out (Nat.le_refl _) hB4) hlt, Lw.bset (Lw.bt hB hB4) hg0 _⟩
              case measure => simp [intOf]; omega
            · refine Lw.cons1 (i := 10) rfl (fun K hK => ?_) AllReadyH.nil
              go_simp
              go_at_call 35
              (with_reducible refine (C.out _ _ _ (Lw.Rd.of_own own3)).mono ?_); rintro e w4 ⟨rfl, hb4⟩
              have hB4 : Below wr.heap.size wr w4 := Lw.bt hB3 hb4
              have c4 : w4.cell? ⟨g, k, none⟩ = some (.int .u8 old) := (hB4.cell (p := ⟨g, k, none⟩) hgl).trans c0
              have f4 : w4.frozen? ⟨g, k, none⟩ = false := (hB4.frozen (p := ⟨g, k, none⟩) hgl).trans f0
              refine hK.out _ _ trivial (fun _ => ?_)
              clear hK K
              (try simp only [Act.put, List.setIfInBounds_toArray, List.set_cons_zero, List.set_cons_succ])
              (refine Lw.take1 (i := 11) (v := ?_) rfl (by kernel_rfl) (by kernel_rfl) (by kernel_rfl) (fun _ _ _ h => h) (Or.inl ⟨by rfl, ?_⟩) (by assumption) ?_; rotate_left 1; (focus (intro wS hSw; (try dsimp only at hSw); go_simp <;> with_reducible rfl)); (try simp only [Act.put, List.setIfInBounds_toArray, List.set_cons_zero, List.set_cons_succ]))
              refine wpAnyH_ready (rs := [3]) (by kernel_rfl) (by simp) ?_
              refine Lw.cons1 (i := 3) rfl (fun K hK => ?_) AllReadyH.nil
              go_simp
              refine hK.out _ _ trivial (fun _ => ?_)
              clear hK K
              (try simp only [Act.put, List.setIfInBounds_toArray, List.set_cons_zero, List.set_cons_succ])
              (refine Lw.take1 (i := 12) (v := ?_) rfl (by kernel_rfl) (by kernel_rfl) (by kernel_rfl) (fun _ _ _ h => h) (Or.inl ⟨by rfl, ?_⟩) (by assumption) ?_; rotate_left 1; (focus (intro wS hSw; (try dsimp only at hSw); go_simp <;> with_reducible rfl)); (try simp only [Act.put, List.setIfInBounds_toArray, List.set_cons_zero, List.set_cons_succ]))
              (refine Lw.take1 (i := 13) (v := ?_) rfl (by kernel_rfl) (by kernel_rfl) (by kernel_rfl) (fun _ _ _ h => h) (Or.inl ⟨by rfl, ?_⟩) (by assumption) ?_; rotate_left 1; (focus (intro wS hSw; (try dsimp only at hSw); go_simp <;> with_reducible rfl)); (try simp only [Act.put, List.setIfInBounds_toArray, List.set_cons_zero, List.set_cons_succ]))
              refine wpAnyH_ready (rs := [14]) (by kernel_rfl) (by simp) ?_
              refine Lw.cons1 (i := 14) rfl (fun K hK => ?_) AllReadyH.nil
              go_simp
              refine hK.out _ _ trivial (fun _ => ?_)
              clear hK K
              (try simp only [Act.put, List.setIfInBounds_toArray, List.set_cons_zero, List.set_cons_succ])
              refine wpAnyH_done (by kernel_rfl) ?_ _
              go_wp2
              go_roundw
              case rel => exact ⟨k + 1, by go_num, by omega, by rw [NX.out]; exact Lw.own_set (Lw.ownsBelow OWN.out (Nat.le_refl _) hB4) hlt, Lw.bset (Lw.bt hB hB4) hg0 _⟩
              case measure => simp [intOf]; omega
    · have hk : k = 17 := by omega
      subst hk
      have E : Hid (Lw.mixL key count bs 17 = Lw.layL key count bs) := Lw.mixL_end L.out
      rw [E.out] at own
      have OWN := Lib.hid own
      clear own
      go_wp2
      go_ret2
      exact ⟨some ⟨g, 0, none⟩, d2, rfl, Lw.ownsBase OWN.out hb1.size, Lw.bt hb1 hB⟩
end Go.Proofs.Ytdibbdlpnfcmiaa
